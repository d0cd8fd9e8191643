/- corner.Over, Under (printed by gen_core.py). -/
import Derived.Test.YthplgcakhniidaaGreatCorD
import Derived.Laws.Tables
import Derived.Laws.CopyOwn
import Derived.Great.BuildSlice
namespace Go.Proofs.YthplgcakhniidaaGreat
open Go.RowKit Go.Maps
attribute [local irreducible] wpQuiet
attribute [local go_sem] Oper.still1
set_option linter.unusedSimpArgs false
set_option linter.unusedVariables false
/-- a box without a name -/
abbrev bxO (b : Bx4) : Bx := (b.1, b.2.1, b.2.2.1, b.2.2.2, 0)

set_option maxRecDepth 100000 in
set_option maxHeartbeats 8000000 in
theorem cn_Over {w : World} {cb : Nat} (px py pi : Int) (hx : leastI ≤ px ∧ px ≤ mostI) (hy : leastI ≤ py ∧ py ≤ mostI) {R : World → Value → Value → World → Prop}
    (C : ∀ W, Below w.heap.size w W → ∀ ab, RdK eBx 5 W ab [bxO (aboveB (px, py, pi)), bxO (rightB (px, py, pi))] → Calls Tryz.prog 52 #[.pointer (some ⟨cb, 0, none⟩), .slice ab 2 2] W fun e W' => ∃ v c, e = .returned (.tuple #[v, c]) ∧ R W v c W') :
    Calls Tryz.prog 19 #[.pointer (some ⟨cb, 0, none⟩), vPt px py pi] w fun e w' => ∃ v c, e = .returned (.tuple #[v, c]) ∧ ∃ W, Below w.heap.size w W ∧ R W v c w' := by
  have CC := Lib.hid C
  have HX := Lib.hid hx
  have HY := Lib.hid hy
  have NT := Lib.hid (fun W => cn_nothing W)
  clear C hx hy
  have CB := Lib.hid (fun W => cn_box px py true true 3 rfl W)
  go_enter Tryz.func19, Tryz.ntmps19
  go_upto_region 1 with fail
  obtain ⟨w1, ew1⟩ : ∃ w1, w1 = w.alloc (.cells #[.int .i64 px, .int .i64 py, .int .u32 pi] 34) := ⟨_, rfl⟩
  have hx1 : w1.heap[w.heap.size]? = some (obP (px, py, pi)) := by rw [ew1]; exact lit0 _ _
  have B1 : Below w.heap.size w w1 := by rw [ew1]; exact (Below.refl _ _).alloc (Nat.le_refl _) _
  rw [← ew1]
  clear ew1
  obtain ⟨hc1, hc2, -⟩ := obP_cells hx1
  have hwl : w.heap.size < w1.heap.size := (Array.getElem?_eq_some_iff.1 hx1).1
  have HWL := Lib.hid hwl
  have HB1 := Lib.hid B1
  have HX1 := Lib.hid hx1
  have g1 := cell_belowW hc1
  have g2 := cell_belowW hc2
  clear B1 hx1
  go_cut [6, 7] from 8 (fun v6 v7 wx => ∃ g6 g7, v6 = .pointer (some ⟨g6, 0, none⟩) ∧ v7 = .pointer (some ⟨g7, 0, none⟩) ∧ Hid (g6 ≠ g7) ∧ w.heap.size < g6 ∧ w.heap.size < g7 ∧ Hid (Below w.heap.size w wx) ∧ Hid (wx.heap[w.heap.size]? = some (obP (px, py, pi))) ∧ Hid (wx.heap[g6]? = some (objBx (px, 9223372036854775807, py, 9223372036854775807, 0))) ∧ Hid (wx.heap[g7]? = some (objBx (px, 9223372036854775807, py, 9223372036854775807, 0))))
  case first =>
    refine wp_region_head (fun W => ∃ p : BelowW w1, W = p.W) [9, 12, 13] [(0, false), (1, true), (2, false), (3, true), (5, false), (6, true), (7, false), (8, true)] (by kernel_rfl) (by kernel_rfl) (fun _ _ d _ _ h => by cases d <;> exact h) ⟨⟨_, (Below.refl _ _).drew⟩, rfl⟩ 6 rfl (by kernel_rfl) ?_
    simp only [pickB, List.filterMap_cons, List.filterMap_nil, List.getElem?_toArray, List.getElem?_cons_succ, List.getElem?_cons_zero, Option.map_some]
    repeat (refine wpHd_step (fun K hK => ?_); go_simp; first | (refine hK _ ?_; clear hK K) | (apply Exists.intro; refine ⟨fun _ => ?_, hK _ ?_⟩; rfl; clear hK K))
    refine wpHd_nil ?_
    have B0 : Below w1.heap.size w1 w1.drew := (Below.refl _ _).drew
    have hs0 : w1.heap.size = w1.drew.heap.size := rfl
    generalize w1.drew = w0 at *
    refine wpAnyT_ready [4, 10, 11] (by kernel_rfl) (by simp) ?_
    refine AllReadyT.cons rfl (fun K hK => ?_) (AllReadyT.cons rfl (fun K hK => ?_) (AllReadyT.cons rfl (fun K hK => ?_) AllReadyT.nil))
    · refine step_call ent_cbox rfl _ _ rfl (vals := #[.int .i64 px, .int .i64 py, .int .u8 3]) rfl (CB.out _) ?_
      rintro e v1 ⟨rfl, hb1⟩
      have B1 := B0.trans (hb1.mono B0.size)
      have hs1 := hb1.size
      refine ⟨_, rfl, ?_⟩
      refine hK _ _ (fun _ _ => ⟨⟨_, B1⟩, rfl⟩) ?_
      clear hK K
      refine wpAnyT_ready [9, 10, 11] (by kernel_rfl) (by simp) ?_
      refine AllReadyT.cons rfl (fun K hK => ?_) (AllReadyT.cons rfl (fun K hK => ?_) (AllReadyT.cons rfl (fun K hK => ?_) AllReadyT.nil))
      · refine step_call ent_cbox rfl _ _ rfl (vals := #[.int .i64 px, .int .i64 py, .int .u8 3]) rfl (CB.out _) ?_
        rintro e v2 ⟨rfl, hb2⟩
        have B2 := B1.trans (hb2.mono B1.size)
        have hs2 := hb2.size
        refine ⟨_, rfl, ?_⟩
        refine hK _ _ (fun _ _ => ⟨⟨_, B2⟩, rfl⟩) ?_
        clear hK K
        refine wpAnyT_ready [10, 11] (by kernel_rfl) (by simp) ?_
        refine AllReadyT.cons rfl (fun K hK => ?_) (AllReadyT.cons rfl (fun K hK => ?_) AllReadyT.nil)
        · go_simp
          obtain ⟨v3, e3⟩ : ∃ W, W = v2.alloc (.cells #[.int .i64 0, .int .i64 0, .int .i64 0, .int .i64 0, .int .u32 0] 39) := ⟨_, rfl⟩
          have hb3 : Below v2.heap.size v2 v3 := by rw [e3]; exact (Below.refl _ _).alloc (Nat.le_refl _) _
          have B3 := B2.trans (hb3.mono B2.size)
          have X6_3 : v3.heap[v2.heap.size]? = some (.cells #[.int .i64 0, .int .i64 0, .int .i64 0, .int .i64 0, .int .u32 0] 39 (0, 0) : Obj) := by rw [e3]; exact lit0 _ _
          have hs3 : v2.heap.size < v3.heap.size := (Array.getElem?_eq_some_iff.1 X6_3).1
          rw [← e3]
          clear e3
          refine hK _ _ (fun _ _ => ⟨⟨_, B3⟩, rfl⟩) ?_
          clear hK K
          refine wpAnyT_ready [11] (by kernel_rfl) (by simp) ?_
          refine AllReadyT.cons rfl (fun K hK => ?_) AllReadyT.nil
          · go_simp
            obtain ⟨v4, e4⟩ : ∃ W, W = v3.alloc (.cells #[.int .i64 0, .int .i64 0, .int .i64 0, .int .i64 0, .int .u32 0] 39) := ⟨_, rfl⟩
            have hb4 : Below v3.heap.size v3 v4 := by rw [e4]; exact (Below.refl _ _).alloc (Nat.le_refl _) _
            have B4 := B3.trans (hb4.mono B3.size)
            have X6_4 := (hb4.block _ (Array.getElem?_eq_some_iff.1 X6_3).1).trans X6_3
            have X7_4 : v4.heap[v3.heap.size]? = some (.cells #[.int .i64 0, .int .i64 0, .int .i64 0, .int .i64 0, .int .u32 0] 39 (0, 0) : Obj) := by rw [e4]; exact lit0 _ _
            have hs4 : v3.heap.size < v4.heap.size := (Array.getElem?_eq_some_iff.1 X7_4).1
            rw [← e4]
            clear e4
            refine hK _ _ (fun _ _ => ⟨⟨_, B4⟩, rfl⟩) ?_
            clear hK K
            have ne : v2.heap.size ≠ v3.heap.size := by omega
            have l6 : w1.heap.size ≤ v2.heap.size := by omega
            have l7 : w1.heap.size ≤ v3.heap.size := by omega
            refine wpAnyT_line [12, 13] _ _ _ (by kernel_rfl) ?_
            simp only [pick, List.filterMap_cons, List.filterMap_nil, List.getElem?_toArray, List.getElem?_cons_succ, List.getElem?_cons_zero]
            refine wpList_store_rowTo rfl 39 (.tmp 6) (.tmp 12) rfl rfl (v2.heap.size) #[.int .i64 (bx1 px true), .int .i64 (bx2 px true), .int .i64 (bx1 py true), .int .i64 (bx2 py true), .int .u32 0] rfl rfl _ _ X6_4 (by kernel_rfl) rfl (by simp [Value.oneCell']) ?_
            refine wpList_store_rowTo rfl 39 (.tmp 7) (.tmp 17) rfl rfl (v3.heap.size) #[.int .i64 (bx1 px true), .int .i64 (bx2 px true), .int .i64 (bx1 py true), .int .i64 (bx2 py true), .int .u32 0] rfl rfl _ _ ((setRow_other _ _ _ _ (Ne.symm ne)).trans X7_4) (by kernel_rfl) rfl (by simp [Value.oneCell']) ?_
            have F6 := (setRow_other (v4.setRow (v2.heap.size) #[.int .i64 (bx1 px true), .int .i64 (bx2 px true), .int .i64 (bx1 py true), .int .i64 (bx2 py true), .int .u32 0]) (v3.heap.size) (v2.heap.size) #[.int .i64 (bx1 px true), .int .i64 (bx2 px true), .int .i64 (bx1 py true), .int .i64 (bx2 py true), .int .u32 0] ne).trans (setRow_heap _ _ _ #[.int .i64 (bx1 px true), .int .i64 (bx2 px true), .int .i64 (bx1 py true), .int .i64 (bx2 py true), .int .u32 0] _ _ X6_4)
            have F7 := setRow_heap (v4.setRow (v2.heap.size) #[.int .i64 (bx1 px true), .int .i64 (bx2 px true), .int .i64 (bx1 py true), .int .i64 (bx2 py true), .int .u32 0]) (v3.heap.size) _ #[.int .i64 (bx1 px true), .int .i64 (bx2 px true), .int .i64 (bx1 py true), .int .i64 (bx2 py true), .int .u32 0] _ _ ((setRow_other _ _ _ _ (Ne.symm ne)).trans X7_4)
            have FB := below_setRow (below_setRow B4 l6 #[.int .i64 (bx1 px true), .int .i64 (bx2 px true), .int .i64 (bx1 py true), .int .i64 (bx2 py true), .int .u32 0]) l7 #[.int .i64 (bx1 px true), .int .i64 (bx2 px true), .int .i64 (bx1 py true), .int .i64 (bx2 py true), .int .u32 0]
            generalize (v4.setRow (v2.heap.size) #[.int .i64 (bx1 px true), .int .i64 (bx2 px true), .int .i64 (bx1 py true), .int .i64 (bx2 py true), .int .u32 0]).setRow (v3.heap.size) #[.int .i64 (bx1 px true), .int .i64 (bx2 px true), .int .i64 (bx1 py true), .int .i64 (bx2 py true), .int .u32 0] = W9 at *
            go_wp2_with fail
            go_meet
            exact ⟨_, _, rfl, rfl, Lib.hid ne, by omega, by omega, Lib.hid (HB1.out.trans (FB.mono HB1.out.size)), Lib.hid ((FB.block _ HWL.out).trans HX1.out), Lib.hid F6, Lib.hid F7⟩
        · go_simp
          obtain ⟨v5, e5⟩ : ∃ W, W = v2.alloc (.cells #[.int .i64 0, .int .i64 0, .int .i64 0, .int .i64 0, .int .u32 0] 39) := ⟨_, rfl⟩
          have hb5 : Below v2.heap.size v2 v5 := by rw [e5]; exact (Below.refl _ _).alloc (Nat.le_refl _) _
          have B5 := B2.trans (hb5.mono B2.size)
          have X7_5 : v5.heap[v2.heap.size]? = some (.cells #[.int .i64 0, .int .i64 0, .int .i64 0, .int .i64 0, .int .u32 0] 39 (0, 0) : Obj) := by rw [e5]; exact lit0 _ _
          have hs5 : v2.heap.size < v5.heap.size := (Array.getElem?_eq_some_iff.1 X7_5).1
          rw [← e5]
          clear e5
          refine hK _ _ (fun _ _ => ⟨⟨_, B5⟩, rfl⟩) ?_
          clear hK K
          refine wpAnyT_ready [10] (by kernel_rfl) (by simp) ?_
          refine AllReadyT.cons rfl (fun K hK => ?_) AllReadyT.nil
          · go_simp
            obtain ⟨v6, e6⟩ : ∃ W, W = v5.alloc (.cells #[.int .i64 0, .int .i64 0, .int .i64 0, .int .i64 0, .int .u32 0] 39) := ⟨_, rfl⟩
            have hb6 : Below v5.heap.size v5 v6 := by rw [e6]; exact (Below.refl _ _).alloc (Nat.le_refl _) _
            have B6 := B5.trans (hb6.mono B5.size)
            have X7_6 := (hb6.block _ (Array.getElem?_eq_some_iff.1 X7_5).1).trans X7_5
            have X6_6 : v6.heap[v5.heap.size]? = some (.cells #[.int .i64 0, .int .i64 0, .int .i64 0, .int .i64 0, .int .u32 0] 39 (0, 0) : Obj) := by rw [e6]; exact lit0 _ _
            have hs6 : v5.heap.size < v6.heap.size := (Array.getElem?_eq_some_iff.1 X6_6).1
            rw [← e6]
            clear e6
            refine hK _ _ (fun _ _ => ⟨⟨_, B6⟩, rfl⟩) ?_
            clear hK K
            have ne : v5.heap.size ≠ v2.heap.size := by omega
            have l6 : w1.heap.size ≤ v5.heap.size := by omega
            have l7 : w1.heap.size ≤ v2.heap.size := by omega
            refine wpAnyT_line [12, 13] _ _ _ (by kernel_rfl) ?_
            simp only [pick, List.filterMap_cons, List.filterMap_nil, List.getElem?_toArray, List.getElem?_cons_succ, List.getElem?_cons_zero]
            refine wpList_store_rowTo rfl 39 (.tmp 6) (.tmp 12) rfl rfl (v5.heap.size) #[.int .i64 (bx1 px true), .int .i64 (bx2 px true), .int .i64 (bx1 py true), .int .i64 (bx2 py true), .int .u32 0] rfl rfl _ _ X6_6 (by kernel_rfl) rfl (by simp [Value.oneCell']) ?_
            refine wpList_store_rowTo rfl 39 (.tmp 7) (.tmp 17) rfl rfl (v2.heap.size) #[.int .i64 (bx1 px true), .int .i64 (bx2 px true), .int .i64 (bx1 py true), .int .i64 (bx2 py true), .int .u32 0] rfl rfl _ _ ((setRow_other _ _ _ _ (Ne.symm ne)).trans X7_6) (by kernel_rfl) rfl (by simp [Value.oneCell']) ?_
            have F6 := (setRow_other (v6.setRow (v5.heap.size) #[.int .i64 (bx1 px true), .int .i64 (bx2 px true), .int .i64 (bx1 py true), .int .i64 (bx2 py true), .int .u32 0]) (v2.heap.size) (v5.heap.size) #[.int .i64 (bx1 px true), .int .i64 (bx2 px true), .int .i64 (bx1 py true), .int .i64 (bx2 py true), .int .u32 0] ne).trans (setRow_heap _ _ _ #[.int .i64 (bx1 px true), .int .i64 (bx2 px true), .int .i64 (bx1 py true), .int .i64 (bx2 py true), .int .u32 0] _ _ X6_6)
            have F7 := setRow_heap (v6.setRow (v5.heap.size) #[.int .i64 (bx1 px true), .int .i64 (bx2 px true), .int .i64 (bx1 py true), .int .i64 (bx2 py true), .int .u32 0]) (v2.heap.size) _ #[.int .i64 (bx1 px true), .int .i64 (bx2 px true), .int .i64 (bx1 py true), .int .i64 (bx2 py true), .int .u32 0] _ _ ((setRow_other _ _ _ _ (Ne.symm ne)).trans X7_6)
            have FB := below_setRow (below_setRow B6 l6 #[.int .i64 (bx1 px true), .int .i64 (bx2 px true), .int .i64 (bx1 py true), .int .i64 (bx2 py true), .int .u32 0]) l7 #[.int .i64 (bx1 px true), .int .i64 (bx2 px true), .int .i64 (bx1 py true), .int .i64 (bx2 py true), .int .u32 0]
            generalize (v6.setRow (v5.heap.size) #[.int .i64 (bx1 px true), .int .i64 (bx2 px true), .int .i64 (bx1 py true), .int .i64 (bx2 py true), .int .u32 0]).setRow (v2.heap.size) #[.int .i64 (bx1 px true), .int .i64 (bx2 px true), .int .i64 (bx1 py true), .int .i64 (bx2 py true), .int .u32 0] = W9 at *
            go_wp2_with fail
            go_meet
            exact ⟨_, _, rfl, rfl, Lib.hid ne, by omega, by omega, Lib.hid (HB1.out.trans (FB.mono HB1.out.size)), Lib.hid ((FB.block _ HWL.out).trans HX1.out), Lib.hid F6, Lib.hid F7⟩
      · go_simp
        obtain ⟨v7, e7⟩ : ∃ W, W = v1.alloc (.cells #[.int .i64 0, .int .i64 0, .int .i64 0, .int .i64 0, .int .u32 0] 39) := ⟨_, rfl⟩
        have hb7 : Below v1.heap.size v1 v7 := by rw [e7]; exact (Below.refl _ _).alloc (Nat.le_refl _) _
        have B7 := B1.trans (hb7.mono B1.size)
        have X6_7 : v7.heap[v1.heap.size]? = some (.cells #[.int .i64 0, .int .i64 0, .int .i64 0, .int .i64 0, .int .u32 0] 39 (0, 0) : Obj) := by rw [e7]; exact lit0 _ _
        have hs7 : v1.heap.size < v7.heap.size := (Array.getElem?_eq_some_iff.1 X6_7).1
        rw [← e7]
        clear e7
        refine hK _ _ (fun _ _ => ⟨⟨_, B7⟩, rfl⟩) ?_
        clear hK K
        refine wpAnyT_ready [9, 11] (by kernel_rfl) (by simp) ?_
        refine AllReadyT.cons rfl (fun K hK => ?_) (AllReadyT.cons rfl (fun K hK => ?_) AllReadyT.nil)
        · refine step_call ent_cbox rfl _ _ rfl (vals := #[.int .i64 px, .int .i64 py, .int .u8 3]) rfl (CB.out _) ?_
          rintro e v8 ⟨rfl, hb8⟩
          have B8 := B7.trans (hb8.mono B7.size)
          have X6_8 := (hb8.block _ (Array.getElem?_eq_some_iff.1 X6_7).1).trans X6_7
          have hs8 := hb8.size
          refine ⟨_, rfl, ?_⟩
          refine hK _ _ (fun _ _ => ⟨⟨_, B8⟩, rfl⟩) ?_
          clear hK K
          refine wpAnyT_ready [11] (by kernel_rfl) (by simp) ?_
          refine AllReadyT.cons rfl (fun K hK => ?_) AllReadyT.nil
          · go_simp
            obtain ⟨v9, e9⟩ : ∃ W, W = v8.alloc (.cells #[.int .i64 0, .int .i64 0, .int .i64 0, .int .i64 0, .int .u32 0] 39) := ⟨_, rfl⟩
            have hb9 : Below v8.heap.size v8 v9 := by rw [e9]; exact (Below.refl _ _).alloc (Nat.le_refl _) _
            have B9 := B8.trans (hb9.mono B8.size)
            have X6_9 := (hb9.block _ (Array.getElem?_eq_some_iff.1 X6_8).1).trans X6_8
            have X7_9 : v9.heap[v8.heap.size]? = some (.cells #[.int .i64 0, .int .i64 0, .int .i64 0, .int .i64 0, .int .u32 0] 39 (0, 0) : Obj) := by rw [e9]; exact lit0 _ _
            have hs9 : v8.heap.size < v9.heap.size := (Array.getElem?_eq_some_iff.1 X7_9).1
            rw [← e9]
            clear e9
            refine hK _ _ (fun _ _ => ⟨⟨_, B9⟩, rfl⟩) ?_
            clear hK K
            have ne : v1.heap.size ≠ v8.heap.size := by omega
            have l6 : w1.heap.size ≤ v1.heap.size := by omega
            have l7 : w1.heap.size ≤ v8.heap.size := by omega
            refine wpAnyT_line [12, 13] _ _ _ (by kernel_rfl) ?_
            simp only [pick, List.filterMap_cons, List.filterMap_nil, List.getElem?_toArray, List.getElem?_cons_succ, List.getElem?_cons_zero]
            refine wpList_store_rowTo rfl 39 (.tmp 6) (.tmp 12) rfl rfl (v1.heap.size) #[.int .i64 (bx1 px true), .int .i64 (bx2 px true), .int .i64 (bx1 py true), .int .i64 (bx2 py true), .int .u32 0] rfl rfl _ _ X6_9 (by kernel_rfl) rfl (by simp [Value.oneCell']) ?_
            refine wpList_store_rowTo rfl 39 (.tmp 7) (.tmp 17) rfl rfl (v8.heap.size) #[.int .i64 (bx1 px true), .int .i64 (bx2 px true), .int .i64 (bx1 py true), .int .i64 (bx2 py true), .int .u32 0] rfl rfl _ _ ((setRow_other _ _ _ _ (Ne.symm ne)).trans X7_9) (by kernel_rfl) rfl (by simp [Value.oneCell']) ?_
            have F6 := (setRow_other (v9.setRow (v1.heap.size) #[.int .i64 (bx1 px true), .int .i64 (bx2 px true), .int .i64 (bx1 py true), .int .i64 (bx2 py true), .int .u32 0]) (v8.heap.size) (v1.heap.size) #[.int .i64 (bx1 px true), .int .i64 (bx2 px true), .int .i64 (bx1 py true), .int .i64 (bx2 py true), .int .u32 0] ne).trans (setRow_heap _ _ _ #[.int .i64 (bx1 px true), .int .i64 (bx2 px true), .int .i64 (bx1 py true), .int .i64 (bx2 py true), .int .u32 0] _ _ X6_9)
            have F7 := setRow_heap (v9.setRow (v1.heap.size) #[.int .i64 (bx1 px true), .int .i64 (bx2 px true), .int .i64 (bx1 py true), .int .i64 (bx2 py true), .int .u32 0]) (v8.heap.size) _ #[.int .i64 (bx1 px true), .int .i64 (bx2 px true), .int .i64 (bx1 py true), .int .i64 (bx2 py true), .int .u32 0] _ _ ((setRow_other _ _ _ _ (Ne.symm ne)).trans X7_9)
            have FB := below_setRow (below_setRow B9 l6 #[.int .i64 (bx1 px true), .int .i64 (bx2 px true), .int .i64 (bx1 py true), .int .i64 (bx2 py true), .int .u32 0]) l7 #[.int .i64 (bx1 px true), .int .i64 (bx2 px true), .int .i64 (bx1 py true), .int .i64 (bx2 py true), .int .u32 0]
            generalize (v9.setRow (v1.heap.size) #[.int .i64 (bx1 px true), .int .i64 (bx2 px true), .int .i64 (bx1 py true), .int .i64 (bx2 py true), .int .u32 0]).setRow (v8.heap.size) #[.int .i64 (bx1 px true), .int .i64 (bx2 px true), .int .i64 (bx1 py true), .int .i64 (bx2 py true), .int .u32 0] = W9 at *
            go_wp2_with fail
            go_meet
            exact ⟨_, _, rfl, rfl, Lib.hid ne, by omega, by omega, Lib.hid (HB1.out.trans (FB.mono HB1.out.size)), Lib.hid ((FB.block _ HWL.out).trans HX1.out), Lib.hid F6, Lib.hid F7⟩
        · go_simp
          obtain ⟨v10, e10⟩ : ∃ W, W = v7.alloc (.cells #[.int .i64 0, .int .i64 0, .int .i64 0, .int .i64 0, .int .u32 0] 39) := ⟨_, rfl⟩
          have hb10 : Below v7.heap.size v7 v10 := by rw [e10]; exact (Below.refl _ _).alloc (Nat.le_refl _) _
          have B10 := B7.trans (hb10.mono B7.size)
          have X6_10 := (hb10.block _ (Array.getElem?_eq_some_iff.1 X6_7).1).trans X6_7
          have X7_10 : v10.heap[v7.heap.size]? = some (.cells #[.int .i64 0, .int .i64 0, .int .i64 0, .int .i64 0, .int .u32 0] 39 (0, 0) : Obj) := by rw [e10]; exact lit0 _ _
          have hs10 : v7.heap.size < v10.heap.size := (Array.getElem?_eq_some_iff.1 X7_10).1
          rw [← e10]
          clear e10
          refine hK _ _ (fun _ _ => ⟨⟨_, B10⟩, rfl⟩) ?_
          clear hK K
          refine wpAnyT_ready [9] (by kernel_rfl) (by simp) ?_
          refine AllReadyT.cons rfl (fun K hK => ?_) AllReadyT.nil
          · refine step_call ent_cbox rfl _ _ rfl (vals := #[.int .i64 px, .int .i64 py, .int .u8 3]) rfl (CB.out _) ?_
            rintro e v11 ⟨rfl, hb11⟩
            have B11 := B10.trans (hb11.mono B10.size)
            have X6_11 := (hb11.block _ (Array.getElem?_eq_some_iff.1 X6_10).1).trans X6_10
            have X7_11 := (hb11.block _ (Array.getElem?_eq_some_iff.1 X7_10).1).trans X7_10
            have hs11 := hb11.size
            refine ⟨_, rfl, ?_⟩
            refine hK _ _ (fun _ _ => ⟨⟨_, B11⟩, rfl⟩) ?_
            clear hK K
            have ne : v1.heap.size ≠ v7.heap.size := by omega
            have l6 : w1.heap.size ≤ v1.heap.size := by omega
            have l7 : w1.heap.size ≤ v7.heap.size := by omega
            refine wpAnyT_line [12, 13] _ _ _ (by kernel_rfl) ?_
            simp only [pick, List.filterMap_cons, List.filterMap_nil, List.getElem?_toArray, List.getElem?_cons_succ, List.getElem?_cons_zero]
            refine wpList_store_rowTo rfl 39 (.tmp 6) (.tmp 12) rfl rfl (v1.heap.size) #[.int .i64 (bx1 px true), .int .i64 (bx2 px true), .int .i64 (bx1 py true), .int .i64 (bx2 py true), .int .u32 0] rfl rfl _ _ X6_11 (by kernel_rfl) rfl (by simp [Value.oneCell']) ?_
            refine wpList_store_rowTo rfl 39 (.tmp 7) (.tmp 17) rfl rfl (v7.heap.size) #[.int .i64 (bx1 px true), .int .i64 (bx2 px true), .int .i64 (bx1 py true), .int .i64 (bx2 py true), .int .u32 0] rfl rfl _ _ ((setRow_other _ _ _ _ (Ne.symm ne)).trans X7_11) (by kernel_rfl) rfl (by simp [Value.oneCell']) ?_
            have F6 := (setRow_other (v11.setRow (v1.heap.size) #[.int .i64 (bx1 px true), .int .i64 (bx2 px true), .int .i64 (bx1 py true), .int .i64 (bx2 py true), .int .u32 0]) (v7.heap.size) (v1.heap.size) #[.int .i64 (bx1 px true), .int .i64 (bx2 px true), .int .i64 (bx1 py true), .int .i64 (bx2 py true), .int .u32 0] ne).trans (setRow_heap _ _ _ #[.int .i64 (bx1 px true), .int .i64 (bx2 px true), .int .i64 (bx1 py true), .int .i64 (bx2 py true), .int .u32 0] _ _ X6_11)
            have F7 := setRow_heap (v11.setRow (v1.heap.size) #[.int .i64 (bx1 px true), .int .i64 (bx2 px true), .int .i64 (bx1 py true), .int .i64 (bx2 py true), .int .u32 0]) (v7.heap.size) _ #[.int .i64 (bx1 px true), .int .i64 (bx2 px true), .int .i64 (bx1 py true), .int .i64 (bx2 py true), .int .u32 0] _ _ ((setRow_other _ _ _ _ (Ne.symm ne)).trans X7_11)
            have FB := below_setRow (below_setRow B11 l6 #[.int .i64 (bx1 px true), .int .i64 (bx2 px true), .int .i64 (bx1 py true), .int .i64 (bx2 py true), .int .u32 0]) l7 #[.int .i64 (bx1 px true), .int .i64 (bx2 px true), .int .i64 (bx1 py true), .int .i64 (bx2 py true), .int .u32 0]
            generalize (v11.setRow (v1.heap.size) #[.int .i64 (bx1 px true), .int .i64 (bx2 px true), .int .i64 (bx1 py true), .int .i64 (bx2 py true), .int .u32 0]).setRow (v7.heap.size) #[.int .i64 (bx1 px true), .int .i64 (bx2 px true), .int .i64 (bx1 py true), .int .i64 (bx2 py true), .int .u32 0] = W9 at *
            go_wp2_with fail
            go_meet
            exact ⟨_, _, rfl, rfl, Lib.hid ne, by omega, by omega, Lib.hid (HB1.out.trans (FB.mono HB1.out.size)), Lib.hid ((FB.block _ HWL.out).trans HX1.out), Lib.hid F6, Lib.hid F7⟩
      · go_simp
        obtain ⟨v12, e12⟩ : ∃ W, W = v1.alloc (.cells #[.int .i64 0, .int .i64 0, .int .i64 0, .int .i64 0, .int .u32 0] 39) := ⟨_, rfl⟩
        have hb12 : Below v1.heap.size v1 v12 := by rw [e12]; exact (Below.refl _ _).alloc (Nat.le_refl _) _
        have B12 := B1.trans (hb12.mono B1.size)
        have X7_12 : v12.heap[v1.heap.size]? = some (.cells #[.int .i64 0, .int .i64 0, .int .i64 0, .int .i64 0, .int .u32 0] 39 (0, 0) : Obj) := by rw [e12]; exact lit0 _ _
        have hs12 : v1.heap.size < v12.heap.size := (Array.getElem?_eq_some_iff.1 X7_12).1
        rw [← e12]
        clear e12
        refine hK _ _ (fun _ _ => ⟨⟨_, B12⟩, rfl⟩) ?_
        clear hK K
        refine wpAnyT_ready [9, 10] (by kernel_rfl) (by simp) ?_
        refine AllReadyT.cons rfl (fun K hK => ?_) (AllReadyT.cons rfl (fun K hK => ?_) AllReadyT.nil)
        · refine step_call ent_cbox rfl _ _ rfl (vals := #[.int .i64 px, .int .i64 py, .int .u8 3]) rfl (CB.out _) ?_
          rintro e v13 ⟨rfl, hb13⟩
          have B13 := B12.trans (hb13.mono B12.size)
          have X7_13 := (hb13.block _ (Array.getElem?_eq_some_iff.1 X7_12).1).trans X7_12
          have hs13 := hb13.size
          refine ⟨_, rfl, ?_⟩
          refine hK _ _ (fun _ _ => ⟨⟨_, B13⟩, rfl⟩) ?_
          clear hK K
          refine wpAnyT_ready [10] (by kernel_rfl) (by simp) ?_
          refine AllReadyT.cons rfl (fun K hK => ?_) AllReadyT.nil
          · go_simp
            obtain ⟨v14, e14⟩ : ∃ W, W = v13.alloc (.cells #[.int .i64 0, .int .i64 0, .int .i64 0, .int .i64 0, .int .u32 0] 39) := ⟨_, rfl⟩
            have hb14 : Below v13.heap.size v13 v14 := by rw [e14]; exact (Below.refl _ _).alloc (Nat.le_refl _) _
            have B14 := B13.trans (hb14.mono B13.size)
            have X7_14 := (hb14.block _ (Array.getElem?_eq_some_iff.1 X7_13).1).trans X7_13
            have X6_14 : v14.heap[v13.heap.size]? = some (.cells #[.int .i64 0, .int .i64 0, .int .i64 0, .int .i64 0, .int .u32 0] 39 (0, 0) : Obj) := by rw [e14]; exact lit0 _ _
            have hs14 : v13.heap.size < v14.heap.size := (Array.getElem?_eq_some_iff.1 X6_14).1
            rw [← e14]
            clear e14
            refine hK _ _ (fun _ _ => ⟨⟨_, B14⟩, rfl⟩) ?_
            clear hK K
            have ne : v13.heap.size ≠ v1.heap.size := by omega
            have l6 : w1.heap.size ≤ v13.heap.size := by omega
            have l7 : w1.heap.size ≤ v1.heap.size := by omega
            refine wpAnyT_line [12, 13] _ _ _ (by kernel_rfl) ?_
            simp only [pick, List.filterMap_cons, List.filterMap_nil, List.getElem?_toArray, List.getElem?_cons_succ, List.getElem?_cons_zero]
            refine wpList_store_rowTo rfl 39 (.tmp 6) (.tmp 12) rfl rfl (v13.heap.size) #[.int .i64 (bx1 px true), .int .i64 (bx2 px true), .int .i64 (bx1 py true), .int .i64 (bx2 py true), .int .u32 0] rfl rfl _ _ X6_14 (by kernel_rfl) rfl (by simp [Value.oneCell']) ?_
            refine wpList_store_rowTo rfl 39 (.tmp 7) (.tmp 17) rfl rfl (v1.heap.size) #[.int .i64 (bx1 px true), .int .i64 (bx2 px true), .int .i64 (bx1 py true), .int .i64 (bx2 py true), .int .u32 0] rfl rfl _ _ ((setRow_other _ _ _ _ (Ne.symm ne)).trans X7_14) (by kernel_rfl) rfl (by simp [Value.oneCell']) ?_
            have F6 := (setRow_other (v14.setRow (v13.heap.size) #[.int .i64 (bx1 px true), .int .i64 (bx2 px true), .int .i64 (bx1 py true), .int .i64 (bx2 py true), .int .u32 0]) (v1.heap.size) (v13.heap.size) #[.int .i64 (bx1 px true), .int .i64 (bx2 px true), .int .i64 (bx1 py true), .int .i64 (bx2 py true), .int .u32 0] ne).trans (setRow_heap _ _ _ #[.int .i64 (bx1 px true), .int .i64 (bx2 px true), .int .i64 (bx1 py true), .int .i64 (bx2 py true), .int .u32 0] _ _ X6_14)
            have F7 := setRow_heap (v14.setRow (v13.heap.size) #[.int .i64 (bx1 px true), .int .i64 (bx2 px true), .int .i64 (bx1 py true), .int .i64 (bx2 py true), .int .u32 0]) (v1.heap.size) _ #[.int .i64 (bx1 px true), .int .i64 (bx2 px true), .int .i64 (bx1 py true), .int .i64 (bx2 py true), .int .u32 0] _ _ ((setRow_other _ _ _ _ (Ne.symm ne)).trans X7_14)
            have FB := below_setRow (below_setRow B14 l6 #[.int .i64 (bx1 px true), .int .i64 (bx2 px true), .int .i64 (bx1 py true), .int .i64 (bx2 py true), .int .u32 0]) l7 #[.int .i64 (bx1 px true), .int .i64 (bx2 px true), .int .i64 (bx1 py true), .int .i64 (bx2 py true), .int .u32 0]
            generalize (v14.setRow (v13.heap.size) #[.int .i64 (bx1 px true), .int .i64 (bx2 px true), .int .i64 (bx1 py true), .int .i64 (bx2 py true), .int .u32 0]).setRow (v1.heap.size) #[.int .i64 (bx1 px true), .int .i64 (bx2 px true), .int .i64 (bx1 py true), .int .i64 (bx2 py true), .int .u32 0] = W9 at *
            go_wp2_with fail
            go_meet
            exact ⟨_, _, rfl, rfl, Lib.hid ne, by omega, by omega, Lib.hid (HB1.out.trans (FB.mono HB1.out.size)), Lib.hid ((FB.block _ HWL.out).trans HX1.out), Lib.hid F6, Lib.hid F7⟩
        · go_simp
          obtain ⟨v15, e15⟩ : ∃ W, W = v12.alloc (.cells #[.int .i64 0, .int .i64 0, .int .i64 0, .int .i64 0, .int .u32 0] 39) := ⟨_, rfl⟩
          have hb15 : Below v12.heap.size v12 v15 := by rw [e15]; exact (Below.refl _ _).alloc (Nat.le_refl _) _
          have B15 := B12.trans (hb15.mono B12.size)
          have X7_15 := (hb15.block _ (Array.getElem?_eq_some_iff.1 X7_12).1).trans X7_12
          have X6_15 : v15.heap[v12.heap.size]? = some (.cells #[.int .i64 0, .int .i64 0, .int .i64 0, .int .i64 0, .int .u32 0] 39 (0, 0) : Obj) := by rw [e15]; exact lit0 _ _
          have hs15 : v12.heap.size < v15.heap.size := (Array.getElem?_eq_some_iff.1 X6_15).1
          rw [← e15]
          clear e15
          refine hK _ _ (fun _ _ => ⟨⟨_, B15⟩, rfl⟩) ?_
          clear hK K
          refine wpAnyT_ready [9] (by kernel_rfl) (by simp) ?_
          refine AllReadyT.cons rfl (fun K hK => ?_) AllReadyT.nil
          · refine step_call ent_cbox rfl _ _ rfl (vals := #[.int .i64 px, .int .i64 py, .int .u8 3]) rfl (CB.out _) ?_
            rintro e v16 ⟨rfl, hb16⟩
            have B16 := B15.trans (hb16.mono B15.size)
            have X7_16 := (hb16.block _ (Array.getElem?_eq_some_iff.1 X7_15).1).trans X7_15
            have X6_16 := (hb16.block _ (Array.getElem?_eq_some_iff.1 X6_15).1).trans X6_15
            have hs16 := hb16.size
            refine ⟨_, rfl, ?_⟩
            refine hK _ _ (fun _ _ => ⟨⟨_, B16⟩, rfl⟩) ?_
            clear hK K
            have ne : v12.heap.size ≠ v1.heap.size := by omega
            have l6 : w1.heap.size ≤ v12.heap.size := by omega
            have l7 : w1.heap.size ≤ v1.heap.size := by omega
            refine wpAnyT_line [12, 13] _ _ _ (by kernel_rfl) ?_
            simp only [pick, List.filterMap_cons, List.filterMap_nil, List.getElem?_toArray, List.getElem?_cons_succ, List.getElem?_cons_zero]
            refine wpList_store_rowTo rfl 39 (.tmp 6) (.tmp 12) rfl rfl (v12.heap.size) #[.int .i64 (bx1 px true), .int .i64 (bx2 px true), .int .i64 (bx1 py true), .int .i64 (bx2 py true), .int .u32 0] rfl rfl _ _ X6_16 (by kernel_rfl) rfl (by simp [Value.oneCell']) ?_
            refine wpList_store_rowTo rfl 39 (.tmp 7) (.tmp 17) rfl rfl (v1.heap.size) #[.int .i64 (bx1 px true), .int .i64 (bx2 px true), .int .i64 (bx1 py true), .int .i64 (bx2 py true), .int .u32 0] rfl rfl _ _ ((setRow_other _ _ _ _ (Ne.symm ne)).trans X7_16) (by kernel_rfl) rfl (by simp [Value.oneCell']) ?_
            have F6 := (setRow_other (v16.setRow (v12.heap.size) #[.int .i64 (bx1 px true), .int .i64 (bx2 px true), .int .i64 (bx1 py true), .int .i64 (bx2 py true), .int .u32 0]) (v1.heap.size) (v12.heap.size) #[.int .i64 (bx1 px true), .int .i64 (bx2 px true), .int .i64 (bx1 py true), .int .i64 (bx2 py true), .int .u32 0] ne).trans (setRow_heap _ _ _ #[.int .i64 (bx1 px true), .int .i64 (bx2 px true), .int .i64 (bx1 py true), .int .i64 (bx2 py true), .int .u32 0] _ _ X6_16)
            have F7 := setRow_heap (v16.setRow (v12.heap.size) #[.int .i64 (bx1 px true), .int .i64 (bx2 px true), .int .i64 (bx1 py true), .int .i64 (bx2 py true), .int .u32 0]) (v1.heap.size) _ #[.int .i64 (bx1 px true), .int .i64 (bx2 px true), .int .i64 (bx1 py true), .int .i64 (bx2 py true), .int .u32 0] _ _ ((setRow_other _ _ _ _ (Ne.symm ne)).trans X7_16)
            have FB := below_setRow (below_setRow B16 l6 #[.int .i64 (bx1 px true), .int .i64 (bx2 px true), .int .i64 (bx1 py true), .int .i64 (bx2 py true), .int .u32 0]) l7 #[.int .i64 (bx1 px true), .int .i64 (bx2 px true), .int .i64 (bx1 py true), .int .i64 (bx2 py true), .int .u32 0]
            generalize (v16.setRow (v12.heap.size) #[.int .i64 (bx1 px true), .int .i64 (bx2 px true), .int .i64 (bx1 py true), .int .i64 (bx2 py true), .int .u32 0]).setRow (v1.heap.size) #[.int .i64 (bx1 px true), .int .i64 (bx2 px true), .int .i64 (bx1 py true), .int .i64 (bx2 py true), .int .u32 0] = W9 at *
            go_wp2_with fail
            go_meet
            exact ⟨_, _, rfl, rfl, Lib.hid ne, by omega, by omega, Lib.hid (HB1.out.trans (FB.mono HB1.out.size)), Lib.hid ((FB.block _ HWL.out).trans HX1.out), Lib.hid F6, Lib.hid F7⟩
    · go_simp
      obtain ⟨v17, e17⟩ : ∃ W, W = w0.alloc (.cells #[.int .i64 0, .int .i64 0, .int .i64 0, .int .i64 0, .int .u32 0] 39) := ⟨_, rfl⟩
      have hb17 : Below w0.heap.size w0 v17 := by rw [e17]; exact (Below.refl _ _).alloc (Nat.le_refl _) _
      have B17 := B0.trans (hb17.mono B0.size)
      have X6_17 : v17.heap[w0.heap.size]? = some (.cells #[.int .i64 0, .int .i64 0, .int .i64 0, .int .i64 0, .int .u32 0] 39 (0, 0) : Obj) := by rw [e17]; exact lit0 _ _
      have hs17 : w0.heap.size < v17.heap.size := (Array.getElem?_eq_some_iff.1 X6_17).1
      rw [← e17]
      clear e17
      refine hK _ _ (fun _ _ => ⟨⟨_, B17⟩, rfl⟩) ?_
      clear hK K
      refine wpAnyT_ready [4, 11] (by kernel_rfl) (by simp) ?_
      refine AllReadyT.cons rfl (fun K hK => ?_) (AllReadyT.cons rfl (fun K hK => ?_) AllReadyT.nil)
      · refine step_call ent_cbox rfl _ _ rfl (vals := #[.int .i64 px, .int .i64 py, .int .u8 3]) rfl (CB.out _) ?_
        rintro e v18 ⟨rfl, hb18⟩
        have B18 := B17.trans (hb18.mono B17.size)
        have X6_18 := (hb18.block _ (Array.getElem?_eq_some_iff.1 X6_17).1).trans X6_17
        have hs18 := hb18.size
        refine ⟨_, rfl, ?_⟩
        refine hK _ _ (fun _ _ => ⟨⟨_, B18⟩, rfl⟩) ?_
        clear hK K
        refine wpAnyT_ready [9, 11] (by kernel_rfl) (by simp) ?_
        refine AllReadyT.cons rfl (fun K hK => ?_) (AllReadyT.cons rfl (fun K hK => ?_) AllReadyT.nil)
        · refine step_call ent_cbox rfl _ _ rfl (vals := #[.int .i64 px, .int .i64 py, .int .u8 3]) rfl (CB.out _) ?_
          rintro e v19 ⟨rfl, hb19⟩
          have B19 := B18.trans (hb19.mono B18.size)
          have X6_19 := (hb19.block _ (Array.getElem?_eq_some_iff.1 X6_18).1).trans X6_18
          have hs19 := hb19.size
          refine ⟨_, rfl, ?_⟩
          refine hK _ _ (fun _ _ => ⟨⟨_, B19⟩, rfl⟩) ?_
          clear hK K
          refine wpAnyT_ready [11] (by kernel_rfl) (by simp) ?_
          refine AllReadyT.cons rfl (fun K hK => ?_) AllReadyT.nil
          · go_simp
            obtain ⟨v20, e20⟩ : ∃ W, W = v19.alloc (.cells #[.int .i64 0, .int .i64 0, .int .i64 0, .int .i64 0, .int .u32 0] 39) := ⟨_, rfl⟩
            have hb20 : Below v19.heap.size v19 v20 := by rw [e20]; exact (Below.refl _ _).alloc (Nat.le_refl _) _
            have B20 := B19.trans (hb20.mono B19.size)
            have X6_20 := (hb20.block _ (Array.getElem?_eq_some_iff.1 X6_19).1).trans X6_19
            have X7_20 : v20.heap[v19.heap.size]? = some (.cells #[.int .i64 0, .int .i64 0, .int .i64 0, .int .i64 0, .int .u32 0] 39 (0, 0) : Obj) := by rw [e20]; exact lit0 _ _
            have hs20 : v19.heap.size < v20.heap.size := (Array.getElem?_eq_some_iff.1 X7_20).1
            rw [← e20]
            clear e20
            refine hK _ _ (fun _ _ => ⟨⟨_, B20⟩, rfl⟩) ?_
            clear hK K
            have ne : w0.heap.size ≠ v19.heap.size := by omega
            have l6 : w1.heap.size ≤ w0.heap.size := by omega
            have l7 : w1.heap.size ≤ v19.heap.size := by omega
            refine wpAnyT_line [12, 13] _ _ _ (by kernel_rfl) ?_
            simp only [pick, List.filterMap_cons, List.filterMap_nil, List.getElem?_toArray, List.getElem?_cons_succ, List.getElem?_cons_zero]
            refine wpList_store_rowTo rfl 39 (.tmp 6) (.tmp 12) rfl rfl (w0.heap.size) #[.int .i64 (bx1 px true), .int .i64 (bx2 px true), .int .i64 (bx1 py true), .int .i64 (bx2 py true), .int .u32 0] rfl rfl _ _ X6_20 (by kernel_rfl) rfl (by simp [Value.oneCell']) ?_
            refine wpList_store_rowTo rfl 39 (.tmp 7) (.tmp 17) rfl rfl (v19.heap.size) #[.int .i64 (bx1 px true), .int .i64 (bx2 px true), .int .i64 (bx1 py true), .int .i64 (bx2 py true), .int .u32 0] rfl rfl _ _ ((setRow_other _ _ _ _ (Ne.symm ne)).trans X7_20) (by kernel_rfl) rfl (by simp [Value.oneCell']) ?_
            have F6 := (setRow_other (v20.setRow (w0.heap.size) #[.int .i64 (bx1 px true), .int .i64 (bx2 px true), .int .i64 (bx1 py true), .int .i64 (bx2 py true), .int .u32 0]) (v19.heap.size) (w0.heap.size) #[.int .i64 (bx1 px true), .int .i64 (bx2 px true), .int .i64 (bx1 py true), .int .i64 (bx2 py true), .int .u32 0] ne).trans (setRow_heap _ _ _ #[.int .i64 (bx1 px true), .int .i64 (bx2 px true), .int .i64 (bx1 py true), .int .i64 (bx2 py true), .int .u32 0] _ _ X6_20)
            have F7 := setRow_heap (v20.setRow (w0.heap.size) #[.int .i64 (bx1 px true), .int .i64 (bx2 px true), .int .i64 (bx1 py true), .int .i64 (bx2 py true), .int .u32 0]) (v19.heap.size) _ #[.int .i64 (bx1 px true), .int .i64 (bx2 px true), .int .i64 (bx1 py true), .int .i64 (bx2 py true), .int .u32 0] _ _ ((setRow_other _ _ _ _ (Ne.symm ne)).trans X7_20)
            have FB := below_setRow (below_setRow B20 l6 #[.int .i64 (bx1 px true), .int .i64 (bx2 px true), .int .i64 (bx1 py true), .int .i64 (bx2 py true), .int .u32 0]) l7 #[.int .i64 (bx1 px true), .int .i64 (bx2 px true), .int .i64 (bx1 py true), .int .i64 (bx2 py true), .int .u32 0]
            generalize (v20.setRow (w0.heap.size) #[.int .i64 (bx1 px true), .int .i64 (bx2 px true), .int .i64 (bx1 py true), .int .i64 (bx2 py true), .int .u32 0]).setRow (v19.heap.size) #[.int .i64 (bx1 px true), .int .i64 (bx2 px true), .int .i64 (bx1 py true), .int .i64 (bx2 py true), .int .u32 0] = W9 at *
            go_wp2_with fail
            go_meet
            exact ⟨_, _, rfl, rfl, Lib.hid ne, by omega, by omega, Lib.hid (HB1.out.trans (FB.mono HB1.out.size)), Lib.hid ((FB.block _ HWL.out).trans HX1.out), Lib.hid F6, Lib.hid F7⟩
        · go_simp
          obtain ⟨v21, e21⟩ : ∃ W, W = v18.alloc (.cells #[.int .i64 0, .int .i64 0, .int .i64 0, .int .i64 0, .int .u32 0] 39) := ⟨_, rfl⟩
          have hb21 : Below v18.heap.size v18 v21 := by rw [e21]; exact (Below.refl _ _).alloc (Nat.le_refl _) _
          have B21 := B18.trans (hb21.mono B18.size)
          have X6_21 := (hb21.block _ (Array.getElem?_eq_some_iff.1 X6_18).1).trans X6_18
          have X7_21 : v21.heap[v18.heap.size]? = some (.cells #[.int .i64 0, .int .i64 0, .int .i64 0, .int .i64 0, .int .u32 0] 39 (0, 0) : Obj) := by rw [e21]; exact lit0 _ _
          have hs21 : v18.heap.size < v21.heap.size := (Array.getElem?_eq_some_iff.1 X7_21).1
          rw [← e21]
          clear e21
          refine hK _ _ (fun _ _ => ⟨⟨_, B21⟩, rfl⟩) ?_
          clear hK K
          refine wpAnyT_ready [9] (by kernel_rfl) (by simp) ?_
          refine AllReadyT.cons rfl (fun K hK => ?_) AllReadyT.nil
          · refine step_call ent_cbox rfl _ _ rfl (vals := #[.int .i64 px, .int .i64 py, .int .u8 3]) rfl (CB.out _) ?_
            rintro e v22 ⟨rfl, hb22⟩
            have B22 := B21.trans (hb22.mono B21.size)
            have X6_22 := (hb22.block _ (Array.getElem?_eq_some_iff.1 X6_21).1).trans X6_21
            have X7_22 := (hb22.block _ (Array.getElem?_eq_some_iff.1 X7_21).1).trans X7_21
            have hs22 := hb22.size
            refine ⟨_, rfl, ?_⟩
            refine hK _ _ (fun _ _ => ⟨⟨_, B22⟩, rfl⟩) ?_
            clear hK K
            have ne : w0.heap.size ≠ v18.heap.size := by omega
            have l6 : w1.heap.size ≤ w0.heap.size := by omega
            have l7 : w1.heap.size ≤ v18.heap.size := by omega
            refine wpAnyT_line [12, 13] _ _ _ (by kernel_rfl) ?_
            simp only [pick, List.filterMap_cons, List.filterMap_nil, List.getElem?_toArray, List.getElem?_cons_succ, List.getElem?_cons_zero]
            refine wpList_store_rowTo rfl 39 (.tmp 6) (.tmp 12) rfl rfl (w0.heap.size) #[.int .i64 (bx1 px true), .int .i64 (bx2 px true), .int .i64 (bx1 py true), .int .i64 (bx2 py true), .int .u32 0] rfl rfl _ _ X6_22 (by kernel_rfl) rfl (by simp [Value.oneCell']) ?_
            refine wpList_store_rowTo rfl 39 (.tmp 7) (.tmp 17) rfl rfl (v18.heap.size) #[.int .i64 (bx1 px true), .int .i64 (bx2 px true), .int .i64 (bx1 py true), .int .i64 (bx2 py true), .int .u32 0] rfl rfl _ _ ((setRow_other _ _ _ _ (Ne.symm ne)).trans X7_22) (by kernel_rfl) rfl (by simp [Value.oneCell']) ?_
            have F6 := (setRow_other (v22.setRow (w0.heap.size) #[.int .i64 (bx1 px true), .int .i64 (bx2 px true), .int .i64 (bx1 py true), .int .i64 (bx2 py true), .int .u32 0]) (v18.heap.size) (w0.heap.size) #[.int .i64 (bx1 px true), .int .i64 (bx2 px true), .int .i64 (bx1 py true), .int .i64 (bx2 py true), .int .u32 0] ne).trans (setRow_heap _ _ _ #[.int .i64 (bx1 px true), .int .i64 (bx2 px true), .int .i64 (bx1 py true), .int .i64 (bx2 py true), .int .u32 0] _ _ X6_22)
            have F7 := setRow_heap (v22.setRow (w0.heap.size) #[.int .i64 (bx1 px true), .int .i64 (bx2 px true), .int .i64 (bx1 py true), .int .i64 (bx2 py true), .int .u32 0]) (v18.heap.size) _ #[.int .i64 (bx1 px true), .int .i64 (bx2 px true), .int .i64 (bx1 py true), .int .i64 (bx2 py true), .int .u32 0] _ _ ((setRow_other _ _ _ _ (Ne.symm ne)).trans X7_22)
            have FB := below_setRow (below_setRow B22 l6 #[.int .i64 (bx1 px true), .int .i64 (bx2 px true), .int .i64 (bx1 py true), .int .i64 (bx2 py true), .int .u32 0]) l7 #[.int .i64 (bx1 px true), .int .i64 (bx2 px true), .int .i64 (bx1 py true), .int .i64 (bx2 py true), .int .u32 0]
            generalize (v22.setRow (w0.heap.size) #[.int .i64 (bx1 px true), .int .i64 (bx2 px true), .int .i64 (bx1 py true), .int .i64 (bx2 py true), .int .u32 0]).setRow (v18.heap.size) #[.int .i64 (bx1 px true), .int .i64 (bx2 px true), .int .i64 (bx1 py true), .int .i64 (bx2 py true), .int .u32 0] = W9 at *
            go_wp2_with fail
            go_meet
            exact ⟨_, _, rfl, rfl, Lib.hid ne, by omega, by omega, Lib.hid (HB1.out.trans (FB.mono HB1.out.size)), Lib.hid ((FB.block _ HWL.out).trans HX1.out), Lib.hid F6, Lib.hid F7⟩
      · go_simp
        obtain ⟨v23, e23⟩ : ∃ W, W = v17.alloc (.cells #[.int .i64 0, .int .i64 0, .int .i64 0, .int .i64 0, .int .u32 0] 39) := ⟨_, rfl⟩
        have hb23 : Below v17.heap.size v17 v23 := by rw [e23]; exact (Below.refl _ _).alloc (Nat.le_refl _) _
        have B23 := B17.trans (hb23.mono B17.size)
        have X6_23 := (hb23.block _ (Array.getElem?_eq_some_iff.1 X6_17).1).trans X6_17
        have X7_23 : v23.heap[v17.heap.size]? = some (.cells #[.int .i64 0, .int .i64 0, .int .i64 0, .int .i64 0, .int .u32 0] 39 (0, 0) : Obj) := by rw [e23]; exact lit0 _ _
        have hs23 : v17.heap.size < v23.heap.size := (Array.getElem?_eq_some_iff.1 X7_23).1
        rw [← e23]
        clear e23
        refine hK _ _ (fun _ _ => ⟨⟨_, B23⟩, rfl⟩) ?_
        clear hK K
        refine wpAnyT_ready [4] (by kernel_rfl) (by simp) ?_
        refine AllReadyT.cons rfl (fun K hK => ?_) AllReadyT.nil
        · refine step_call ent_cbox rfl _ _ rfl (vals := #[.int .i64 px, .int .i64 py, .int .u8 3]) rfl (CB.out _) ?_
          rintro e v24 ⟨rfl, hb24⟩
          have B24 := B23.trans (hb24.mono B23.size)
          have X6_24 := (hb24.block _ (Array.getElem?_eq_some_iff.1 X6_23).1).trans X6_23
          have X7_24 := (hb24.block _ (Array.getElem?_eq_some_iff.1 X7_23).1).trans X7_23
          have hs24 := hb24.size
          refine ⟨_, rfl, ?_⟩
          refine hK _ _ (fun _ _ => ⟨⟨_, B24⟩, rfl⟩) ?_
          clear hK K
          refine wpAnyT_ready [9] (by kernel_rfl) (by simp) ?_
          refine AllReadyT.cons rfl (fun K hK => ?_) AllReadyT.nil
          · refine step_call ent_cbox rfl _ _ rfl (vals := #[.int .i64 px, .int .i64 py, .int .u8 3]) rfl (CB.out _) ?_
            rintro e v25 ⟨rfl, hb25⟩
            have B25 := B24.trans (hb25.mono B24.size)
            have X6_25 := (hb25.block _ (Array.getElem?_eq_some_iff.1 X6_24).1).trans X6_24
            have X7_25 := (hb25.block _ (Array.getElem?_eq_some_iff.1 X7_24).1).trans X7_24
            have hs25 := hb25.size
            refine ⟨_, rfl, ?_⟩
            refine hK _ _ (fun _ _ => ⟨⟨_, B25⟩, rfl⟩) ?_
            clear hK K
            have ne : w0.heap.size ≠ v17.heap.size := by omega
            have l6 : w1.heap.size ≤ w0.heap.size := by omega
            have l7 : w1.heap.size ≤ v17.heap.size := by omega
            refine wpAnyT_line [12, 13] _ _ _ (by kernel_rfl) ?_
            simp only [pick, List.filterMap_cons, List.filterMap_nil, List.getElem?_toArray, List.getElem?_cons_succ, List.getElem?_cons_zero]
            refine wpList_store_rowTo rfl 39 (.tmp 6) (.tmp 12) rfl rfl (w0.heap.size) #[.int .i64 (bx1 px true), .int .i64 (bx2 px true), .int .i64 (bx1 py true), .int .i64 (bx2 py true), .int .u32 0] rfl rfl _ _ X6_25 (by kernel_rfl) rfl (by simp [Value.oneCell']) ?_
            refine wpList_store_rowTo rfl 39 (.tmp 7) (.tmp 17) rfl rfl (v17.heap.size) #[.int .i64 (bx1 px true), .int .i64 (bx2 px true), .int .i64 (bx1 py true), .int .i64 (bx2 py true), .int .u32 0] rfl rfl _ _ ((setRow_other _ _ _ _ (Ne.symm ne)).trans X7_25) (by kernel_rfl) rfl (by simp [Value.oneCell']) ?_
            have F6 := (setRow_other (v25.setRow (w0.heap.size) #[.int .i64 (bx1 px true), .int .i64 (bx2 px true), .int .i64 (bx1 py true), .int .i64 (bx2 py true), .int .u32 0]) (v17.heap.size) (w0.heap.size) #[.int .i64 (bx1 px true), .int .i64 (bx2 px true), .int .i64 (bx1 py true), .int .i64 (bx2 py true), .int .u32 0] ne).trans (setRow_heap _ _ _ #[.int .i64 (bx1 px true), .int .i64 (bx2 px true), .int .i64 (bx1 py true), .int .i64 (bx2 py true), .int .u32 0] _ _ X6_25)
            have F7 := setRow_heap (v25.setRow (w0.heap.size) #[.int .i64 (bx1 px true), .int .i64 (bx2 px true), .int .i64 (bx1 py true), .int .i64 (bx2 py true), .int .u32 0]) (v17.heap.size) _ #[.int .i64 (bx1 px true), .int .i64 (bx2 px true), .int .i64 (bx1 py true), .int .i64 (bx2 py true), .int .u32 0] _ _ ((setRow_other _ _ _ _ (Ne.symm ne)).trans X7_25)
            have FB := below_setRow (below_setRow B25 l6 #[.int .i64 (bx1 px true), .int .i64 (bx2 px true), .int .i64 (bx1 py true), .int .i64 (bx2 py true), .int .u32 0]) l7 #[.int .i64 (bx1 px true), .int .i64 (bx2 px true), .int .i64 (bx1 py true), .int .i64 (bx2 py true), .int .u32 0]
            generalize (v25.setRow (w0.heap.size) #[.int .i64 (bx1 px true), .int .i64 (bx2 px true), .int .i64 (bx1 py true), .int .i64 (bx2 py true), .int .u32 0]).setRow (v17.heap.size) #[.int .i64 (bx1 px true), .int .i64 (bx2 px true), .int .i64 (bx1 py true), .int .i64 (bx2 py true), .int .u32 0] = W9 at *
            go_wp2_with fail
            go_meet
            exact ⟨_, _, rfl, rfl, Lib.hid ne, by omega, by omega, Lib.hid (HB1.out.trans (FB.mono HB1.out.size)), Lib.hid ((FB.block _ HWL.out).trans HX1.out), Lib.hid F6, Lib.hid F7⟩
    · go_simp
      obtain ⟨v26, e26⟩ : ∃ W, W = w0.alloc (.cells #[.int .i64 0, .int .i64 0, .int .i64 0, .int .i64 0, .int .u32 0] 39) := ⟨_, rfl⟩
      have hb26 : Below w0.heap.size w0 v26 := by rw [e26]; exact (Below.refl _ _).alloc (Nat.le_refl _) _
      have B26 := B0.trans (hb26.mono B0.size)
      have X7_26 : v26.heap[w0.heap.size]? = some (.cells #[.int .i64 0, .int .i64 0, .int .i64 0, .int .i64 0, .int .u32 0] 39 (0, 0) : Obj) := by rw [e26]; exact lit0 _ _
      have hs26 : w0.heap.size < v26.heap.size := (Array.getElem?_eq_some_iff.1 X7_26).1
      rw [← e26]
      clear e26
      refine hK _ _ (fun _ _ => ⟨⟨_, B26⟩, rfl⟩) ?_
      clear hK K
      refine wpAnyT_ready [4, 10] (by kernel_rfl) (by simp) ?_
      refine AllReadyT.cons rfl (fun K hK => ?_) (AllReadyT.cons rfl (fun K hK => ?_) AllReadyT.nil)
      · refine step_call ent_cbox rfl _ _ rfl (vals := #[.int .i64 px, .int .i64 py, .int .u8 3]) rfl (CB.out _) ?_
        rintro e v27 ⟨rfl, hb27⟩
        have B27 := B26.trans (hb27.mono B26.size)
        have X7_27 := (hb27.block _ (Array.getElem?_eq_some_iff.1 X7_26).1).trans X7_26
        have hs27 := hb27.size
        refine ⟨_, rfl, ?_⟩
        refine hK _ _ (fun _ _ => ⟨⟨_, B27⟩, rfl⟩) ?_
        clear hK K
        refine wpAnyT_ready [9, 10] (by kernel_rfl) (by simp) ?_
        refine AllReadyT.cons rfl (fun K hK => ?_) (AllReadyT.cons rfl (fun K hK => ?_) AllReadyT.nil)
        · refine step_call ent_cbox rfl _ _ rfl (vals := #[.int .i64 px, .int .i64 py, .int .u8 3]) rfl (CB.out _) ?_
          rintro e v28 ⟨rfl, hb28⟩
          have B28 := B27.trans (hb28.mono B27.size)
          have X7_28 := (hb28.block _ (Array.getElem?_eq_some_iff.1 X7_27).1).trans X7_27
          have hs28 := hb28.size
          refine ⟨_, rfl, ?_⟩
          refine hK _ _ (fun _ _ => ⟨⟨_, B28⟩, rfl⟩) ?_
          clear hK K
          refine wpAnyT_ready [10] (by kernel_rfl) (by simp) ?_
          refine AllReadyT.cons rfl (fun K hK => ?_) AllReadyT.nil
          · go_simp
            obtain ⟨v29, e29⟩ : ∃ W, W = v28.alloc (.cells #[.int .i64 0, .int .i64 0, .int .i64 0, .int .i64 0, .int .u32 0] 39) := ⟨_, rfl⟩
            have hb29 : Below v28.heap.size v28 v29 := by rw [e29]; exact (Below.refl _ _).alloc (Nat.le_refl _) _
            have B29 := B28.trans (hb29.mono B28.size)
            have X7_29 := (hb29.block _ (Array.getElem?_eq_some_iff.1 X7_28).1).trans X7_28
            have X6_29 : v29.heap[v28.heap.size]? = some (.cells #[.int .i64 0, .int .i64 0, .int .i64 0, .int .i64 0, .int .u32 0] 39 (0, 0) : Obj) := by rw [e29]; exact lit0 _ _
            have hs29 : v28.heap.size < v29.heap.size := (Array.getElem?_eq_some_iff.1 X6_29).1
            rw [← e29]
            clear e29
            refine hK _ _ (fun _ _ => ⟨⟨_, B29⟩, rfl⟩) ?_
            clear hK K
            have ne : v28.heap.size ≠ w0.heap.size := by omega
            have l6 : w1.heap.size ≤ v28.heap.size := by omega
            have l7 : w1.heap.size ≤ w0.heap.size := by omega
            refine wpAnyT_line [12, 13] _ _ _ (by kernel_rfl) ?_
            simp only [pick, List.filterMap_cons, List.filterMap_nil, List.getElem?_toArray, List.getElem?_cons_succ, List.getElem?_cons_zero]
            refine wpList_store_rowTo rfl 39 (.tmp 6) (.tmp 12) rfl rfl (v28.heap.size) #[.int .i64 (bx1 px true), .int .i64 (bx2 px true), .int .i64 (bx1 py true), .int .i64 (bx2 py true), .int .u32 0] rfl rfl _ _ X6_29 (by kernel_rfl) rfl (by simp [Value.oneCell']) ?_
            refine wpList_store_rowTo rfl 39 (.tmp 7) (.tmp 17) rfl rfl (w0.heap.size) #[.int .i64 (bx1 px true), .int .i64 (bx2 px true), .int .i64 (bx1 py true), .int .i64 (bx2 py true), .int .u32 0] rfl rfl _ _ ((setRow_other _ _ _ _ (Ne.symm ne)).trans X7_29) (by kernel_rfl) rfl (by simp [Value.oneCell']) ?_
            have F6 := (setRow_other (v29.setRow (v28.heap.size) #[.int .i64 (bx1 px true), .int .i64 (bx2 px true), .int .i64 (bx1 py true), .int .i64 (bx2 py true), .int .u32 0]) (w0.heap.size) (v28.heap.size) #[.int .i64 (bx1 px true), .int .i64 (bx2 px true), .int .i64 (bx1 py true), .int .i64 (bx2 py true), .int .u32 0] ne).trans (setRow_heap _ _ _ #[.int .i64 (bx1 px true), .int .i64 (bx2 px true), .int .i64 (bx1 py true), .int .i64 (bx2 py true), .int .u32 0] _ _ X6_29)
            have F7 := setRow_heap (v29.setRow (v28.heap.size) #[.int .i64 (bx1 px true), .int .i64 (bx2 px true), .int .i64 (bx1 py true), .int .i64 (bx2 py true), .int .u32 0]) (w0.heap.size) _ #[.int .i64 (bx1 px true), .int .i64 (bx2 px true), .int .i64 (bx1 py true), .int .i64 (bx2 py true), .int .u32 0] _ _ ((setRow_other _ _ _ _ (Ne.symm ne)).trans X7_29)
            have FB := below_setRow (below_setRow B29 l6 #[.int .i64 (bx1 px true), .int .i64 (bx2 px true), .int .i64 (bx1 py true), .int .i64 (bx2 py true), .int .u32 0]) l7 #[.int .i64 (bx1 px true), .int .i64 (bx2 px true), .int .i64 (bx1 py true), .int .i64 (bx2 py true), .int .u32 0]
            generalize (v29.setRow (v28.heap.size) #[.int .i64 (bx1 px true), .int .i64 (bx2 px true), .int .i64 (bx1 py true), .int .i64 (bx2 py true), .int .u32 0]).setRow (w0.heap.size) #[.int .i64 (bx1 px true), .int .i64 (bx2 px true), .int .i64 (bx1 py true), .int .i64 (bx2 py true), .int .u32 0] = W9 at *
            go_wp2_with fail
            go_meet
            exact ⟨_, _, rfl, rfl, Lib.hid ne, by omega, by omega, Lib.hid (HB1.out.trans (FB.mono HB1.out.size)), Lib.hid ((FB.block _ HWL.out).trans HX1.out), Lib.hid F6, Lib.hid F7⟩
        · go_simp
          obtain ⟨v30, e30⟩ : ∃ W, W = v27.alloc (.cells #[.int .i64 0, .int .i64 0, .int .i64 0, .int .i64 0, .int .u32 0] 39) := ⟨_, rfl⟩
          have hb30 : Below v27.heap.size v27 v30 := by rw [e30]; exact (Below.refl _ _).alloc (Nat.le_refl _) _
          have B30 := B27.trans (hb30.mono B27.size)
          have X7_30 := (hb30.block _ (Array.getElem?_eq_some_iff.1 X7_27).1).trans X7_27
          have X6_30 : v30.heap[v27.heap.size]? = some (.cells #[.int .i64 0, .int .i64 0, .int .i64 0, .int .i64 0, .int .u32 0] 39 (0, 0) : Obj) := by rw [e30]; exact lit0 _ _
          have hs30 : v27.heap.size < v30.heap.size := (Array.getElem?_eq_some_iff.1 X6_30).1
          rw [← e30]
          clear e30
          refine hK _ _ (fun _ _ => ⟨⟨_, B30⟩, rfl⟩) ?_
          clear hK K
          refine wpAnyT_ready [9] (by kernel_rfl) (by simp) ?_
          refine AllReadyT.cons rfl (fun K hK => ?_) AllReadyT.nil
          · refine step_call ent_cbox rfl _ _ rfl (vals := #[.int .i64 px, .int .i64 py, .int .u8 3]) rfl (CB.out _) ?_
            rintro e v31 ⟨rfl, hb31⟩
            have B31 := B30.trans (hb31.mono B30.size)
            have X7_31 := (hb31.block _ (Array.getElem?_eq_some_iff.1 X7_30).1).trans X7_30
            have X6_31 := (hb31.block _ (Array.getElem?_eq_some_iff.1 X6_30).1).trans X6_30
            have hs31 := hb31.size
            refine ⟨_, rfl, ?_⟩
            refine hK _ _ (fun _ _ => ⟨⟨_, B31⟩, rfl⟩) ?_
            clear hK K
            have ne : v27.heap.size ≠ w0.heap.size := by omega
            have l6 : w1.heap.size ≤ v27.heap.size := by omega
            have l7 : w1.heap.size ≤ w0.heap.size := by omega
            refine wpAnyT_line [12, 13] _ _ _ (by kernel_rfl) ?_
            simp only [pick, List.filterMap_cons, List.filterMap_nil, List.getElem?_toArray, List.getElem?_cons_succ, List.getElem?_cons_zero]
            refine wpList_store_rowTo rfl 39 (.tmp 6) (.tmp 12) rfl rfl (v27.heap.size) #[.int .i64 (bx1 px true), .int .i64 (bx2 px true), .int .i64 (bx1 py true), .int .i64 (bx2 py true), .int .u32 0] rfl rfl _ _ X6_31 (by kernel_rfl) rfl (by simp [Value.oneCell']) ?_
            refine wpList_store_rowTo rfl 39 (.tmp 7) (.tmp 17) rfl rfl (w0.heap.size) #[.int .i64 (bx1 px true), .int .i64 (bx2 px true), .int .i64 (bx1 py true), .int .i64 (bx2 py true), .int .u32 0] rfl rfl _ _ ((setRow_other _ _ _ _ (Ne.symm ne)).trans X7_31) (by kernel_rfl) rfl (by simp [Value.oneCell']) ?_
            have F6 := (setRow_other (v31.setRow (v27.heap.size) #[.int .i64 (bx1 px true), .int .i64 (bx2 px true), .int .i64 (bx1 py true), .int .i64 (bx2 py true), .int .u32 0]) (w0.heap.size) (v27.heap.size) #[.int .i64 (bx1 px true), .int .i64 (bx2 px true), .int .i64 (bx1 py true), .int .i64 (bx2 py true), .int .u32 0] ne).trans (setRow_heap _ _ _ #[.int .i64 (bx1 px true), .int .i64 (bx2 px true), .int .i64 (bx1 py true), .int .i64 (bx2 py true), .int .u32 0] _ _ X6_31)
            have F7 := setRow_heap (v31.setRow (v27.heap.size) #[.int .i64 (bx1 px true), .int .i64 (bx2 px true), .int .i64 (bx1 py true), .int .i64 (bx2 py true), .int .u32 0]) (w0.heap.size) _ #[.int .i64 (bx1 px true), .int .i64 (bx2 px true), .int .i64 (bx1 py true), .int .i64 (bx2 py true), .int .u32 0] _ _ ((setRow_other _ _ _ _ (Ne.symm ne)).trans X7_31)
            have FB := below_setRow (below_setRow B31 l6 #[.int .i64 (bx1 px true), .int .i64 (bx2 px true), .int .i64 (bx1 py true), .int .i64 (bx2 py true), .int .u32 0]) l7 #[.int .i64 (bx1 px true), .int .i64 (bx2 px true), .int .i64 (bx1 py true), .int .i64 (bx2 py true), .int .u32 0]
            generalize (v31.setRow (v27.heap.size) #[.int .i64 (bx1 px true), .int .i64 (bx2 px true), .int .i64 (bx1 py true), .int .i64 (bx2 py true), .int .u32 0]).setRow (w0.heap.size) #[.int .i64 (bx1 px true), .int .i64 (bx2 px true), .int .i64 (bx1 py true), .int .i64 (bx2 py true), .int .u32 0] = W9 at *
            go_wp2_with fail
            go_meet
            exact ⟨_, _, rfl, rfl, Lib.hid ne, by omega, by omega, Lib.hid (HB1.out.trans (FB.mono HB1.out.size)), Lib.hid ((FB.block _ HWL.out).trans HX1.out), Lib.hid F6, Lib.hid F7⟩
      · go_simp
        obtain ⟨v32, e32⟩ : ∃ W, W = v26.alloc (.cells #[.int .i64 0, .int .i64 0, .int .i64 0, .int .i64 0, .int .u32 0] 39) := ⟨_, rfl⟩
        have hb32 : Below v26.heap.size v26 v32 := by rw [e32]; exact (Below.refl _ _).alloc (Nat.le_refl _) _
        have B32 := B26.trans (hb32.mono B26.size)
        have X7_32 := (hb32.block _ (Array.getElem?_eq_some_iff.1 X7_26).1).trans X7_26
        have X6_32 : v32.heap[v26.heap.size]? = some (.cells #[.int .i64 0, .int .i64 0, .int .i64 0, .int .i64 0, .int .u32 0] 39 (0, 0) : Obj) := by rw [e32]; exact lit0 _ _
        have hs32 : v26.heap.size < v32.heap.size := (Array.getElem?_eq_some_iff.1 X6_32).1
        rw [← e32]
        clear e32
        refine hK _ _ (fun _ _ => ⟨⟨_, B32⟩, rfl⟩) ?_
        clear hK K
        refine wpAnyT_ready [4] (by kernel_rfl) (by simp) ?_
        refine AllReadyT.cons rfl (fun K hK => ?_) AllReadyT.nil
        · refine step_call ent_cbox rfl _ _ rfl (vals := #[.int .i64 px, .int .i64 py, .int .u8 3]) rfl (CB.out _) ?_
          rintro e v33 ⟨rfl, hb33⟩
          have B33 := B32.trans (hb33.mono B32.size)
          have X7_33 := (hb33.block _ (Array.getElem?_eq_some_iff.1 X7_32).1).trans X7_32
          have X6_33 := (hb33.block _ (Array.getElem?_eq_some_iff.1 X6_32).1).trans X6_32
          have hs33 := hb33.size
          refine ⟨_, rfl, ?_⟩
          refine hK _ _ (fun _ _ => ⟨⟨_, B33⟩, rfl⟩) ?_
          clear hK K
          refine wpAnyT_ready [9] (by kernel_rfl) (by simp) ?_
          refine AllReadyT.cons rfl (fun K hK => ?_) AllReadyT.nil
          · refine step_call ent_cbox rfl _ _ rfl (vals := #[.int .i64 px, .int .i64 py, .int .u8 3]) rfl (CB.out _) ?_
            rintro e v34 ⟨rfl, hb34⟩
            have B34 := B33.trans (hb34.mono B33.size)
            have X7_34 := (hb34.block _ (Array.getElem?_eq_some_iff.1 X7_33).1).trans X7_33
            have X6_34 := (hb34.block _ (Array.getElem?_eq_some_iff.1 X6_33).1).trans X6_33
            have hs34 := hb34.size
            refine ⟨_, rfl, ?_⟩
            refine hK _ _ (fun _ _ => ⟨⟨_, B34⟩, rfl⟩) ?_
            clear hK K
            have ne : v26.heap.size ≠ w0.heap.size := by omega
            have l6 : w1.heap.size ≤ v26.heap.size := by omega
            have l7 : w1.heap.size ≤ w0.heap.size := by omega
            refine wpAnyT_line [12, 13] _ _ _ (by kernel_rfl) ?_
            simp only [pick, List.filterMap_cons, List.filterMap_nil, List.getElem?_toArray, List.getElem?_cons_succ, List.getElem?_cons_zero]
            refine wpList_store_rowTo rfl 39 (.tmp 6) (.tmp 12) rfl rfl (v26.heap.size) #[.int .i64 (bx1 px true), .int .i64 (bx2 px true), .int .i64 (bx1 py true), .int .i64 (bx2 py true), .int .u32 0] rfl rfl _ _ X6_34 (by kernel_rfl) rfl (by simp [Value.oneCell']) ?_
            refine wpList_store_rowTo rfl 39 (.tmp 7) (.tmp 17) rfl rfl (w0.heap.size) #[.int .i64 (bx1 px true), .int .i64 (bx2 px true), .int .i64 (bx1 py true), .int .i64 (bx2 py true), .int .u32 0] rfl rfl _ _ ((setRow_other _ _ _ _ (Ne.symm ne)).trans X7_34) (by kernel_rfl) rfl (by simp [Value.oneCell']) ?_
            have F6 := (setRow_other (v34.setRow (v26.heap.size) #[.int .i64 (bx1 px true), .int .i64 (bx2 px true), .int .i64 (bx1 py true), .int .i64 (bx2 py true), .int .u32 0]) (w0.heap.size) (v26.heap.size) #[.int .i64 (bx1 px true), .int .i64 (bx2 px true), .int .i64 (bx1 py true), .int .i64 (bx2 py true), .int .u32 0] ne).trans (setRow_heap _ _ _ #[.int .i64 (bx1 px true), .int .i64 (bx2 px true), .int .i64 (bx1 py true), .int .i64 (bx2 py true), .int .u32 0] _ _ X6_34)
            have F7 := setRow_heap (v34.setRow (v26.heap.size) #[.int .i64 (bx1 px true), .int .i64 (bx2 px true), .int .i64 (bx1 py true), .int .i64 (bx2 py true), .int .u32 0]) (w0.heap.size) _ #[.int .i64 (bx1 px true), .int .i64 (bx2 px true), .int .i64 (bx1 py true), .int .i64 (bx2 py true), .int .u32 0] _ _ ((setRow_other _ _ _ _ (Ne.symm ne)).trans X7_34)
            have FB := below_setRow (below_setRow B34 l6 #[.int .i64 (bx1 px true), .int .i64 (bx2 px true), .int .i64 (bx1 py true), .int .i64 (bx2 py true), .int .u32 0]) l7 #[.int .i64 (bx1 px true), .int .i64 (bx2 px true), .int .i64 (bx1 py true), .int .i64 (bx2 py true), .int .u32 0]
            generalize (v34.setRow (v26.heap.size) #[.int .i64 (bx1 px true), .int .i64 (bx2 px true), .int .i64 (bx1 py true), .int .i64 (bx2 py true), .int .u32 0]).setRow (w0.heap.size) #[.int .i64 (bx1 px true), .int .i64 (bx2 px true), .int .i64 (bx1 py true), .int .i64 (bx2 py true), .int .u32 0] = W9 at *
            go_wp2_with fail
            go_meet
            exact ⟨_, _, rfl, rfl, Lib.hid ne, by omega, by omega, Lib.hid (HB1.out.trans (FB.mono HB1.out.size)), Lib.hid ((FB.block _ HWL.out).trans HX1.out), Lib.hid F6, Lib.hid F7⟩
  case rest =>
    obtain ⟨g6, g7, rfl, rfl, hne, h6, h7, HB, HP, H6, H7⟩ := hcut
    have q1 : wc.cell? ⟨w.heap.size, 0, none⟩ = some (.int .i64 px) := (obP_cells HP.out).1
    have q2 : wc.cell? ⟨w.heap.size, 1, none⟩ = some (.int .i64 py) := (obP_cells HP.out).2.1
    go_upto_if 20 with fail
    clear q1 q2
    go_cut [] from 20 (fun wx => Hid (Below w.heap.size w wx) ∧ Hid (wx.heap[w.heap.size]? = some (obP (px, py, pi))) ∧ Hid (wx.heap[g6]? = some (objBx (bxO (aboveB (px, py, pi))))) ∧ Hid (wx.heap[g7]? = some (objBx ((px, 9223372036854775807, py, 9223372036854775807, 0)))))
    case first =>
      have y0 : wc.cell? ⟨g6, 0, none⟩ = some (.int .i64 px) := (objBx_cells H6.out).1
      have y1 : wc.cell? ⟨g6, 1, none⟩ = some (.int .i64 9223372036854775807) := (objBx_cells H6.out).2.1
      have y2 : wc.cell? ⟨g6, 2, none⟩ = some (.int .i64 py) := (objBx_cells H6.out).2.2.1
      have y3 : wc.cell? ⟨g6, 3, none⟩ = some (.int .i64 9223372036854775807) := (objBx_cells H6.out).2.2.2.1
      have y4 : wc.cell? ⟨g6, 4, none⟩ = some (.int .u32 0) := (objBx_cells H6.out).2.2.2.2
      have yz0 : wc.frozen? ⟨g6, 0, none⟩ = false := by simp [World.frozen?, H6.out, objBx]
      have yz1 : wc.frozen? ⟨g6, 1, none⟩ = false := by simp [World.frozen?, H6.out, objBx]
      have yz2 : wc.frozen? ⟨g6, 2, none⟩ = false := by simp [World.frozen?, H6.out, objBx]
      have yz3 : wc.frozen? ⟨g6, 3, none⟩ = false := by simp [World.frozen?, H6.out, objBx]
      have yz4 : wc.frozen? ⟨g6, 4, none⟩ = false := by simp [World.frozen?, H6.out, objBx]
      have hy := HY.out
      simp only [leastI, mostI] at hy
      by_cases e : py = 9223372036854775807
      · have d : (py == 9223372036854775807) = true := by simp [e]
        have E := Lib.hid e
        clear e
        go_wp2_with (first
          | (go_at_call 51; refine (NT.out _).mono ?_; rintro e2 w2 ⟨rfl, hb2⟩; have X2 := (hb2.block _ (Array.getElem?_eq_some_iff.1 H6.out).1).trans H6.out; have X3 := (hb2.block _ (Array.getElem?_eq_some_iff.1 H7.out).1).trans H7.out; have X4 := (hb2.block _ (Array.getElem?_eq_some_iff.1 HP.out).1).trans HP.out)
          | (refine wpList_store_rowTo rfl 39 (.tmp 6) (.tmp 21) rfl rfl g6 #[.int .i64 1, .int .i64 0, .int .i64 0, .int .i64 0, .int .u32 0] rfl rfl _ _ X2 (by kernel_rfl) rfl (by simp [Value.oneCell']) ?_))
        go_meet
        have BB := (HB.out.trans (hb2.mono HB.out.size))
        exact ⟨Lib.hid (below_setRow BB (by omega) _), Lib.hid ((setRow_other _ _ _ _ (by omega)).trans X4), Lib.hid ((setRow_heap _ _ _ _ _ _ X2).trans (congrArg some (show objBx (bxO (aboveB (px, py, pi))) = _ by rw [show aboveB (px, py, pi) = noB by simp [aboveB, E.out]]; rfl).symm)), Lib.hid ((setRow_other _ _ _ _ (Ne.symm hne.out)).trans X3)⟩
      · have d : (py == 9223372036854775807) = false := by simp [e]
        have el : py < 9223372036854775807 := by omega
        have E := Lib.hid e
        clear e
        go_wp2
        go_meet
        have S1 := heap_setCell_same wc g6 2 _ _ (Value.int .i64 (py + 1)) H6.out
        exact ⟨Lib.hid (HB.out.setCell (by show w.heap.size ≤ g6; omega) _), Lib.hid ((heap_setNe (by show g6 ≠ w.heap.size; omega)).trans HP.out), Lib.hid (S1.trans (congrArg some (show _ = objBx (bxO (aboveB (px, py, pi))) by rw [show aboveB (px, py, pi) = (px, 9223372036854775807, py + 1, 9223372036854775807) by simp [aboveB, E.out]]; rfl))), Lib.hid ((heap_setNe (by show g6 ≠ g7; exact hne.out)).trans H7.out)⟩
    case rest =>
    clear HB HP H6 H7
    obtain ⟨HB, HP, H6, H7⟩ := hcut
    have q1 : wc.cell? ⟨w.heap.size, 0, none⟩ = some (.int .i64 px) := (obP_cells HP.out).1
    have q2 : wc.cell? ⟨w.heap.size, 1, none⟩ = some (.int .i64 py) := (obP_cells HP.out).2.1
    go_upto_if 28 with fail
    go_cut [] from 28 (fun wx => Hid (Below w.heap.size w wx) ∧ Hid (wx.heap[w.heap.size]? = some (obP (px, py, pi))) ∧ Hid (wx.heap[g6]? = some (objBx (bxO (aboveB (px, py, pi))))) ∧ Hid (wx.heap[g7]? = some (objBx (bxO (rightB (px, py, pi))))))
    case first =>
      have y0 : wc.cell? ⟨g7, 0, none⟩ = some (.int .i64 px) := (objBx_cells H7.out).1
      have y1 : wc.cell? ⟨g7, 1, none⟩ = some (.int .i64 9223372036854775807) := (objBx_cells H7.out).2.1
      have y2 : wc.cell? ⟨g7, 2, none⟩ = some (.int .i64 py) := (objBx_cells H7.out).2.2.1
      have y3 : wc.cell? ⟨g7, 3, none⟩ = some (.int .i64 9223372036854775807) := (objBx_cells H7.out).2.2.2.1
      have y4 : wc.cell? ⟨g7, 4, none⟩ = some (.int .u32 0) := (objBx_cells H7.out).2.2.2.2
      have yz0 : wc.frozen? ⟨g7, 0, none⟩ = false := by simp [World.frozen?, H7.out, objBx]
      have yz1 : wc.frozen? ⟨g7, 1, none⟩ = false := by simp [World.frozen?, H7.out, objBx]
      have yz2 : wc.frozen? ⟨g7, 2, none⟩ = false := by simp [World.frozen?, H7.out, objBx]
      have yz3 : wc.frozen? ⟨g7, 3, none⟩ = false := by simp [World.frozen?, H7.out, objBx]
      have yz4 : wc.frozen? ⟨g7, 4, none⟩ = false := by simp [World.frozen?, H7.out, objBx]
      have hx := HX.out
      simp only [leastI, mostI] at hx
      by_cases e : px = 9223372036854775807
      · have d : (px == 9223372036854775807) = true := by simp [e]
        have E := Lib.hid e
        clear e
        go_wp2_with (first
          | (go_at_call 51; refine (NT.out _).mono ?_; rintro e2 w2 ⟨rfl, hb2⟩; have X2 := (hb2.block _ (Array.getElem?_eq_some_iff.1 H7.out).1).trans H7.out; have X3 := (hb2.block _ (Array.getElem?_eq_some_iff.1 H6.out).1).trans H6.out; have X4 := (hb2.block _ (Array.getElem?_eq_some_iff.1 HP.out).1).trans HP.out)
          | (refine wpList_store_rowTo rfl 39 (.tmp 7) (.tmp 29) rfl rfl g7 #[.int .i64 1, .int .i64 0, .int .i64 0, .int .i64 0, .int .u32 0] rfl rfl _ _ X2 (by kernel_rfl) rfl (by simp [Value.oneCell']) ?_))
        go_meet
        have BB := (HB.out.trans (hb2.mono HB.out.size))
        exact ⟨Lib.hid (below_setRow BB (by omega) _), Lib.hid ((setRow_other _ _ _ _ (by omega)).trans X4), Lib.hid ((setRow_other _ _ _ _ hne.out).trans X3), Lib.hid ((setRow_heap _ _ _ _ _ _ X2).trans (congrArg some (show objBx (bxO (rightB (px, py, pi))) = _ by rw [show rightB (px, py, pi) = noB by simp [rightB, E.out]]; rfl).symm))⟩
      · have d : (px == 9223372036854775807) = false := by simp [e]
        have el : px < 9223372036854775807 := by omega
        have E := Lib.hid e
        clear e
        have nwg : w.heap.size ≠ g7 := by omega
        go_wp2
        go_meet
        have S1 := heap_setCell_same wc g7 0 _ _ (Value.int .i64 (px + 1)) H7.out
        have S2 := heap_setCell_same _ g7 3 _ _ (Value.int .i64 py) S1
        exact ⟨Lib.hid ((HB.out.setCell (by show w.heap.size ≤ g7; omega) _).setCell (by show w.heap.size ≤ g7; omega) _), Lib.hid ((heap_setNe (by show g7 ≠ w.heap.size; omega)).trans ((heap_setNe (by show g7 ≠ w.heap.size; omega)).trans HP.out)), Lib.hid ((heap_setNe (by show g7 ≠ g6; exact Ne.symm hne.out)).trans ((heap_setNe (by show g7 ≠ g6; exact Ne.symm hne.out)).trans H6.out)), Lib.hid (S2.trans (congrArg some (show _ = objBx (bxO (rightB (px, py, pi))) by rw [show rightB (px, py, pi) = (px + 1, 9223372036854775807, py, py) by simp [rightB, E.out]]; rfl)))⟩
    case rest =>
    clear HB HP H6 H7
    obtain ⟨HB, HP, H6, H7⟩ := hcut
    generalize aboveB (px, py, pi) = A at *
    generalize rightB (px, py, pi) = B at *
    obtain ⟨A1, A2, A3, A4⟩ := A
    obtain ⟨B1, B2, B3, B4⟩ := B
    have y0 : wc.cell? ⟨g6, 0, none⟩ = some (.int .i64 A1) := (objBx_cells H6.out).1
    have y1 : wc.cell? ⟨g6, 1, none⟩ = some (.int .i64 A2) := (objBx_cells H6.out).2.1
    have y2 : wc.cell? ⟨g6, 2, none⟩ = some (.int .i64 A3) := (objBx_cells H6.out).2.2.1
    have y3 : wc.cell? ⟨g6, 3, none⟩ = some (.int .i64 A4) := (objBx_cells H6.out).2.2.2.1
    have y4 : wc.cell? ⟨g6, 4, none⟩ = some (.int .u32 0) := (objBx_cells H6.out).2.2.2.2
    have yz0 : wc.frozen? ⟨g6, 0, none⟩ = false := by simp [World.frozen?, H6.out, objBx]
    have yz1 : wc.frozen? ⟨g6, 1, none⟩ = false := by simp [World.frozen?, H6.out, objBx]
    have yz2 : wc.frozen? ⟨g6, 2, none⟩ = false := by simp [World.frozen?, H6.out, objBx]
    have yz3 : wc.frozen? ⟨g6, 3, none⟩ = false := by simp [World.frozen?, H6.out, objBx]
    have yz4 : wc.frozen? ⟨g6, 4, none⟩ = false := by simp [World.frozen?, H6.out, objBx]
    have x0 : wc.cell? ⟨g7, 0, none⟩ = some (.int .i64 B1) := (objBx_cells H7.out).1
    have x1 : wc.cell? ⟨g7, 1, none⟩ = some (.int .i64 B2) := (objBx_cells H7.out).2.1
    have x2 : wc.cell? ⟨g7, 2, none⟩ = some (.int .i64 B3) := (objBx_cells H7.out).2.2.1
    have x3 : wc.cell? ⟨g7, 3, none⟩ = some (.int .i64 B4) := (objBx_cells H7.out).2.2.2.1
    have x4 : wc.cell? ⟨g7, 4, none⟩ = some (.int .u32 0) := (objBx_cells H7.out).2.2.2.2
    have xz0 : wc.frozen? ⟨g7, 0, none⟩ = false := by simp [World.frozen?, H7.out, objBx]
    have xz1 : wc.frozen? ⟨g7, 1, none⟩ = false := by simp [World.frozen?, H7.out, objBx]
    have xz2 : wc.frozen? ⟨g7, 2, none⟩ = false := by simp [World.frozen?, H7.out, objBx]
    have xz3 : wc.frozen? ⟨g7, 3, none⟩ = false := by simp [World.frozen?, H7.out, objBx]
    have xz4 : wc.frozen? ⟨g7, 4, none⟩ = false := by simp [World.frozen?, H7.out, objBx]
    have hlit : ∀ W, Below wc.heap.size wc W → True := fun _ _ => trivial
    go_wp2_with fail
    have RL := RdK.lit (sz := 5) eBx_len wc 39 [bxO (A1, A2, A3, A4), bxO (B1, B2, B3, B4)] wc.heap.size rfl
    have b1 : Below wc.heap.size wc (wc.alloc (.cells #[.int .i64 A1, .int .i64 A2, .int .i64 A3, .int .i64 A4, .int .u32 0, .int .i64 B1, .int .i64 B2, .int .i64 B3, .int .i64 B4, .int .u32 0] 39)) := (Below.refl _ _).alloc (Nat.le_refl _) _
    have BF := HB.out.trans (b1.mono HB.out.size)
    have CF := CC.out _ BF _ RL
    refine CF.mono ?_
    rintro e w9 ⟨v, c, rfl, hR⟩
    have HR := Lib.hid hR
    have HBF := Lib.hid BF
    clear hR CF RL BF b1
    go_wp2_with fail
    go_ret2
    exact ⟨v, c, rfl, _, HBF.out, HR.out⟩

set_option maxRecDepth 100000 in
set_option maxHeartbeats 8000000 in
theorem cn_Under {w : World} {cb : Nat} (px py pi : Int) (hx : leastI ≤ px ∧ px ≤ mostI) (hy : leastI ≤ py ∧ py ≤ mostI) {R : World → Value → Value → World → Prop}
    (C : ∀ W, Below w.heap.size w W → ∀ ab, RdK eBx 5 W ab [bxO (belowB (px, py, pi)), bxO (leftB (px, py, pi))] → Calls Tryz.prog 52 #[.pointer (some ⟨cb, 0, none⟩), .slice ab 2 2] W fun e W' => ∃ v c, e = .returned (.tuple #[v, c]) ∧ R W v c W') :
    Calls Tryz.prog 34 #[.pointer (some ⟨cb, 0, none⟩), vPt px py pi] w fun e w' => ∃ v c, e = .returned (.tuple #[v, c]) ∧ ∃ W, Below w.heap.size w W ∧ R W v c w' := by
  have CC := Lib.hid C
  have HX := Lib.hid hx
  have HY := Lib.hid hy
  have NT := Lib.hid (fun W => cn_nothing W)
  clear C hx hy
  have CB := Lib.hid (fun W => cn_box px py false false 0 rfl W)
  go_enter Tryz.func34, Tryz.ntmps34
  go_upto_region 1 with fail
  obtain ⟨w1, ew1⟩ : ∃ w1, w1 = w.alloc (.cells #[.int .i64 px, .int .i64 py, .int .u32 pi] 34) := ⟨_, rfl⟩
  have hx1 : w1.heap[w.heap.size]? = some (obP (px, py, pi)) := by rw [ew1]; exact lit0 _ _
  have B1 : Below w.heap.size w w1 := by rw [ew1]; exact (Below.refl _ _).alloc (Nat.le_refl _) _
  rw [← ew1]
  clear ew1
  obtain ⟨hc1, hc2, -⟩ := obP_cells hx1
  have hwl : w.heap.size < w1.heap.size := (Array.getElem?_eq_some_iff.1 hx1).1
  have HWL := Lib.hid hwl
  have HB1 := Lib.hid B1
  have HX1 := Lib.hid hx1
  have g1 := cell_belowW hc1
  have g2 := cell_belowW hc2
  clear B1 hx1
  go_cut [6, 7] from 8 (fun v6 v7 wx => ∃ g6 g7, v6 = .pointer (some ⟨g6, 0, none⟩) ∧ v7 = .pointer (some ⟨g7, 0, none⟩) ∧ Hid (g6 ≠ g7) ∧ w.heap.size < g6 ∧ w.heap.size < g7 ∧ Hid (Below w.heap.size w wx) ∧ Hid (wx.heap[w.heap.size]? = some (obP (px, py, pi))) ∧ Hid (wx.heap[g6]? = some (objBx (-9223372036854775808, px, -9223372036854775808, py, 0))) ∧ Hid (wx.heap[g7]? = some (objBx (-9223372036854775808, px, -9223372036854775808, py, 0))))
  case first =>
    refine wp_region_head (fun W => ∃ p : BelowW w1, W = p.W) [9, 12, 13] [(0, false), (1, true), (2, false), (3, true), (5, false), (6, true), (7, false), (8, true)] (by kernel_rfl) (by kernel_rfl) (fun _ _ d _ _ h => by cases d <;> exact h) ⟨⟨_, (Below.refl _ _).drew⟩, rfl⟩ 6 rfl (by kernel_rfl) ?_
    simp only [pickB, List.filterMap_cons, List.filterMap_nil, List.getElem?_toArray, List.getElem?_cons_succ, List.getElem?_cons_zero, Option.map_some]
    repeat (refine wpHd_step (fun K hK => ?_); go_simp; first | (refine hK _ ?_; clear hK K) | (apply Exists.intro; refine ⟨fun _ => ?_, hK _ ?_⟩; rfl; clear hK K))
    refine wpHd_nil ?_
    have B0 : Below w1.heap.size w1 w1.drew := (Below.refl _ _).drew
    have hs0 : w1.heap.size = w1.drew.heap.size := rfl
    generalize w1.drew = w0 at *
    refine wpAnyT_ready [4, 10, 11] (by kernel_rfl) (by simp) ?_
    refine AllReadyT.cons rfl (fun K hK => ?_) (AllReadyT.cons rfl (fun K hK => ?_) (AllReadyT.cons rfl (fun K hK => ?_) AllReadyT.nil))
    · refine step_call ent_cbox rfl _ _ rfl (vals := #[.int .i64 px, .int .i64 py, .int .u8 0]) rfl (CB.out _) ?_
      rintro e v35 ⟨rfl, hb35⟩
      have B35 := B0.trans (hb35.mono B0.size)
      have hs35 := hb35.size
      refine ⟨_, rfl, ?_⟩
      refine hK _ _ (fun _ _ => ⟨⟨_, B35⟩, rfl⟩) ?_
      clear hK K
      refine wpAnyT_ready [9, 10, 11] (by kernel_rfl) (by simp) ?_
      refine AllReadyT.cons rfl (fun K hK => ?_) (AllReadyT.cons rfl (fun K hK => ?_) (AllReadyT.cons rfl (fun K hK => ?_) AllReadyT.nil))
      · refine step_call ent_cbox rfl _ _ rfl (vals := #[.int .i64 px, .int .i64 py, .int .u8 0]) rfl (CB.out _) ?_
        rintro e v36 ⟨rfl, hb36⟩
        have B36 := B35.trans (hb36.mono B35.size)
        have hs36 := hb36.size
        refine ⟨_, rfl, ?_⟩
        refine hK _ _ (fun _ _ => ⟨⟨_, B36⟩, rfl⟩) ?_
        clear hK K
        refine wpAnyT_ready [10, 11] (by kernel_rfl) (by simp) ?_
        refine AllReadyT.cons rfl (fun K hK => ?_) (AllReadyT.cons rfl (fun K hK => ?_) AllReadyT.nil)
        · go_simp
          obtain ⟨v37, e37⟩ : ∃ W, W = v36.alloc (.cells #[.int .i64 0, .int .i64 0, .int .i64 0, .int .i64 0, .int .u32 0] 39) := ⟨_, rfl⟩
          have hb37 : Below v36.heap.size v36 v37 := by rw [e37]; exact (Below.refl _ _).alloc (Nat.le_refl _) _
          have B37 := B36.trans (hb37.mono B36.size)
          have X6_37 : v37.heap[v36.heap.size]? = some (.cells #[.int .i64 0, .int .i64 0, .int .i64 0, .int .i64 0, .int .u32 0] 39 (0, 0) : Obj) := by rw [e37]; exact lit0 _ _
          have hs37 : v36.heap.size < v37.heap.size := (Array.getElem?_eq_some_iff.1 X6_37).1
          rw [← e37]
          clear e37
          refine hK _ _ (fun _ _ => ⟨⟨_, B37⟩, rfl⟩) ?_
          clear hK K
          refine wpAnyT_ready [11] (by kernel_rfl) (by simp) ?_
          refine AllReadyT.cons rfl (fun K hK => ?_) AllReadyT.nil
          · go_simp
            obtain ⟨v38, e38⟩ : ∃ W, W = v37.alloc (.cells #[.int .i64 0, .int .i64 0, .int .i64 0, .int .i64 0, .int .u32 0] 39) := ⟨_, rfl⟩
            have hb38 : Below v37.heap.size v37 v38 := by rw [e38]; exact (Below.refl _ _).alloc (Nat.le_refl _) _
            have B38 := B37.trans (hb38.mono B37.size)
            have X6_38 := (hb38.block _ (Array.getElem?_eq_some_iff.1 X6_37).1).trans X6_37
            have X7_38 : v38.heap[v37.heap.size]? = some (.cells #[.int .i64 0, .int .i64 0, .int .i64 0, .int .i64 0, .int .u32 0] 39 (0, 0) : Obj) := by rw [e38]; exact lit0 _ _
            have hs38 : v37.heap.size < v38.heap.size := (Array.getElem?_eq_some_iff.1 X7_38).1
            rw [← e38]
            clear e38
            refine hK _ _ (fun _ _ => ⟨⟨_, B38⟩, rfl⟩) ?_
            clear hK K
            have ne : v36.heap.size ≠ v37.heap.size := by omega
            have l6 : w1.heap.size ≤ v36.heap.size := by omega
            have l7 : w1.heap.size ≤ v37.heap.size := by omega
            refine wpAnyT_line [12, 13] _ _ _ (by kernel_rfl) ?_
            simp only [pick, List.filterMap_cons, List.filterMap_nil, List.getElem?_toArray, List.getElem?_cons_succ, List.getElem?_cons_zero]
            refine wpList_store_rowTo rfl 39 (.tmp 6) (.tmp 12) rfl rfl (v36.heap.size) #[.int .i64 (bx1 px false), .int .i64 (bx2 px false), .int .i64 (bx1 py false), .int .i64 (bx2 py false), .int .u32 0] rfl rfl _ _ X6_38 (by kernel_rfl) rfl (by simp [Value.oneCell']) ?_
            refine wpList_store_rowTo rfl 39 (.tmp 7) (.tmp 17) rfl rfl (v37.heap.size) #[.int .i64 (bx1 px false), .int .i64 (bx2 px false), .int .i64 (bx1 py false), .int .i64 (bx2 py false), .int .u32 0] rfl rfl _ _ ((setRow_other _ _ _ _ (Ne.symm ne)).trans X7_38) (by kernel_rfl) rfl (by simp [Value.oneCell']) ?_
            have F6 := (setRow_other (v38.setRow (v36.heap.size) #[.int .i64 (bx1 px false), .int .i64 (bx2 px false), .int .i64 (bx1 py false), .int .i64 (bx2 py false), .int .u32 0]) (v37.heap.size) (v36.heap.size) #[.int .i64 (bx1 px false), .int .i64 (bx2 px false), .int .i64 (bx1 py false), .int .i64 (bx2 py false), .int .u32 0] ne).trans (setRow_heap _ _ _ #[.int .i64 (bx1 px false), .int .i64 (bx2 px false), .int .i64 (bx1 py false), .int .i64 (bx2 py false), .int .u32 0] _ _ X6_38)
            have F7 := setRow_heap (v38.setRow (v36.heap.size) #[.int .i64 (bx1 px false), .int .i64 (bx2 px false), .int .i64 (bx1 py false), .int .i64 (bx2 py false), .int .u32 0]) (v37.heap.size) _ #[.int .i64 (bx1 px false), .int .i64 (bx2 px false), .int .i64 (bx1 py false), .int .i64 (bx2 py false), .int .u32 0] _ _ ((setRow_other _ _ _ _ (Ne.symm ne)).trans X7_38)
            have FB := below_setRow (below_setRow B38 l6 #[.int .i64 (bx1 px false), .int .i64 (bx2 px false), .int .i64 (bx1 py false), .int .i64 (bx2 py false), .int .u32 0]) l7 #[.int .i64 (bx1 px false), .int .i64 (bx2 px false), .int .i64 (bx1 py false), .int .i64 (bx2 py false), .int .u32 0]
            generalize (v38.setRow (v36.heap.size) #[.int .i64 (bx1 px false), .int .i64 (bx2 px false), .int .i64 (bx1 py false), .int .i64 (bx2 py false), .int .u32 0]).setRow (v37.heap.size) #[.int .i64 (bx1 px false), .int .i64 (bx2 px false), .int .i64 (bx1 py false), .int .i64 (bx2 py false), .int .u32 0] = W9 at *
            go_wp2_with fail
            go_meet
            exact ⟨_, _, rfl, rfl, Lib.hid ne, by omega, by omega, Lib.hid (HB1.out.trans (FB.mono HB1.out.size)), Lib.hid ((FB.block _ HWL.out).trans HX1.out), Lib.hid F6, Lib.hid F7⟩
        · go_simp
          obtain ⟨v39, e39⟩ : ∃ W, W = v36.alloc (.cells #[.int .i64 0, .int .i64 0, .int .i64 0, .int .i64 0, .int .u32 0] 39) := ⟨_, rfl⟩
          have hb39 : Below v36.heap.size v36 v39 := by rw [e39]; exact (Below.refl _ _).alloc (Nat.le_refl _) _
          have B39 := B36.trans (hb39.mono B36.size)
          have X7_39 : v39.heap[v36.heap.size]? = some (.cells #[.int .i64 0, .int .i64 0, .int .i64 0, .int .i64 0, .int .u32 0] 39 (0, 0) : Obj) := by rw [e39]; exact lit0 _ _
          have hs39 : v36.heap.size < v39.heap.size := (Array.getElem?_eq_some_iff.1 X7_39).1
          rw [← e39]
          clear e39
          refine hK _ _ (fun _ _ => ⟨⟨_, B39⟩, rfl⟩) ?_
          clear hK K
          refine wpAnyT_ready [10] (by kernel_rfl) (by simp) ?_
          refine AllReadyT.cons rfl (fun K hK => ?_) AllReadyT.nil
          · go_simp
            obtain ⟨v40, e40⟩ : ∃ W, W = v39.alloc (.cells #[.int .i64 0, .int .i64 0, .int .i64 0, .int .i64 0, .int .u32 0] 39) := ⟨_, rfl⟩
            have hb40 : Below v39.heap.size v39 v40 := by rw [e40]; exact (Below.refl _ _).alloc (Nat.le_refl _) _
            have B40 := B39.trans (hb40.mono B39.size)
            have X7_40 := (hb40.block _ (Array.getElem?_eq_some_iff.1 X7_39).1).trans X7_39
            have X6_40 : v40.heap[v39.heap.size]? = some (.cells #[.int .i64 0, .int .i64 0, .int .i64 0, .int .i64 0, .int .u32 0] 39 (0, 0) : Obj) := by rw [e40]; exact lit0 _ _
            have hs40 : v39.heap.size < v40.heap.size := (Array.getElem?_eq_some_iff.1 X6_40).1
            rw [← e40]
            clear e40
            refine hK _ _ (fun _ _ => ⟨⟨_, B40⟩, rfl⟩) ?_
            clear hK K
            have ne : v39.heap.size ≠ v36.heap.size := by omega
            have l6 : w1.heap.size ≤ v39.heap.size := by omega
            have l7 : w1.heap.size ≤ v36.heap.size := by omega
            refine wpAnyT_line [12, 13] _ _ _ (by kernel_rfl) ?_
            simp only [pick, List.filterMap_cons, List.filterMap_nil, List.getElem?_toArray, List.getElem?_cons_succ, List.getElem?_cons_zero]
            refine wpList_store_rowTo rfl 39 (.tmp 6) (.tmp 12) rfl rfl (v39.heap.size) #[.int .i64 (bx1 px false), .int .i64 (bx2 px false), .int .i64 (bx1 py false), .int .i64 (bx2 py false), .int .u32 0] rfl rfl _ _ X6_40 (by kernel_rfl) rfl (by simp [Value.oneCell']) ?_
            refine wpList_store_rowTo rfl 39 (.tmp 7) (.tmp 17) rfl rfl (v36.heap.size) #[.int .i64 (bx1 px false), .int .i64 (bx2 px false), .int .i64 (bx1 py false), .int .i64 (bx2 py false), .int .u32 0] rfl rfl _ _ ((setRow_other _ _ _ _ (Ne.symm ne)).trans X7_40) (by kernel_rfl) rfl (by simp [Value.oneCell']) ?_
            have F6 := (setRow_other (v40.setRow (v39.heap.size) #[.int .i64 (bx1 px false), .int .i64 (bx2 px false), .int .i64 (bx1 py false), .int .i64 (bx2 py false), .int .u32 0]) (v36.heap.size) (v39.heap.size) #[.int .i64 (bx1 px false), .int .i64 (bx2 px false), .int .i64 (bx1 py false), .int .i64 (bx2 py false), .int .u32 0] ne).trans (setRow_heap _ _ _ #[.int .i64 (bx1 px false), .int .i64 (bx2 px false), .int .i64 (bx1 py false), .int .i64 (bx2 py false), .int .u32 0] _ _ X6_40)
            have F7 := setRow_heap (v40.setRow (v39.heap.size) #[.int .i64 (bx1 px false), .int .i64 (bx2 px false), .int .i64 (bx1 py false), .int .i64 (bx2 py false), .int .u32 0]) (v36.heap.size) _ #[.int .i64 (bx1 px false), .int .i64 (bx2 px false), .int .i64 (bx1 py false), .int .i64 (bx2 py false), .int .u32 0] _ _ ((setRow_other _ _ _ _ (Ne.symm ne)).trans X7_40)
            have FB := below_setRow (below_setRow B40 l6 #[.int .i64 (bx1 px false), .int .i64 (bx2 px false), .int .i64 (bx1 py false), .int .i64 (bx2 py false), .int .u32 0]) l7 #[.int .i64 (bx1 px false), .int .i64 (bx2 px false), .int .i64 (bx1 py false), .int .i64 (bx2 py false), .int .u32 0]
            generalize (v40.setRow (v39.heap.size) #[.int .i64 (bx1 px false), .int .i64 (bx2 px false), .int .i64 (bx1 py false), .int .i64 (bx2 py false), .int .u32 0]).setRow (v36.heap.size) #[.int .i64 (bx1 px false), .int .i64 (bx2 px false), .int .i64 (bx1 py false), .int .i64 (bx2 py false), .int .u32 0] = W9 at *
            go_wp2_with fail
            go_meet
            exact ⟨_, _, rfl, rfl, Lib.hid ne, by omega, by omega, Lib.hid (HB1.out.trans (FB.mono HB1.out.size)), Lib.hid ((FB.block _ HWL.out).trans HX1.out), Lib.hid F6, Lib.hid F7⟩
      · go_simp
        obtain ⟨v41, e41⟩ : ∃ W, W = v35.alloc (.cells #[.int .i64 0, .int .i64 0, .int .i64 0, .int .i64 0, .int .u32 0] 39) := ⟨_, rfl⟩
        have hb41 : Below v35.heap.size v35 v41 := by rw [e41]; exact (Below.refl _ _).alloc (Nat.le_refl _) _
        have B41 := B35.trans (hb41.mono B35.size)
        have X6_41 : v41.heap[v35.heap.size]? = some (.cells #[.int .i64 0, .int .i64 0, .int .i64 0, .int .i64 0, .int .u32 0] 39 (0, 0) : Obj) := by rw [e41]; exact lit0 _ _
        have hs41 : v35.heap.size < v41.heap.size := (Array.getElem?_eq_some_iff.1 X6_41).1
        rw [← e41]
        clear e41
        refine hK _ _ (fun _ _ => ⟨⟨_, B41⟩, rfl⟩) ?_
        clear hK K
        refine wpAnyT_ready [9, 11] (by kernel_rfl) (by simp) ?_
        refine AllReadyT.cons rfl (fun K hK => ?_) (AllReadyT.cons rfl (fun K hK => ?_) AllReadyT.nil)
        · refine step_call ent_cbox rfl _ _ rfl (vals := #[.int .i64 px, .int .i64 py, .int .u8 0]) rfl (CB.out _) ?_
          rintro e v42 ⟨rfl, hb42⟩
          have B42 := B41.trans (hb42.mono B41.size)
          have X6_42 := (hb42.block _ (Array.getElem?_eq_some_iff.1 X6_41).1).trans X6_41
          have hs42 := hb42.size
          refine ⟨_, rfl, ?_⟩
          refine hK _ _ (fun _ _ => ⟨⟨_, B42⟩, rfl⟩) ?_
          clear hK K
          refine wpAnyT_ready [11] (by kernel_rfl) (by simp) ?_
          refine AllReadyT.cons rfl (fun K hK => ?_) AllReadyT.nil
          · go_simp
            obtain ⟨v43, e43⟩ : ∃ W, W = v42.alloc (.cells #[.int .i64 0, .int .i64 0, .int .i64 0, .int .i64 0, .int .u32 0] 39) := ⟨_, rfl⟩
            have hb43 : Below v42.heap.size v42 v43 := by rw [e43]; exact (Below.refl _ _).alloc (Nat.le_refl _) _
            have B43 := B42.trans (hb43.mono B42.size)
            have X6_43 := (hb43.block _ (Array.getElem?_eq_some_iff.1 X6_42).1).trans X6_42
            have X7_43 : v43.heap[v42.heap.size]? = some (.cells #[.int .i64 0, .int .i64 0, .int .i64 0, .int .i64 0, .int .u32 0] 39 (0, 0) : Obj) := by rw [e43]; exact lit0 _ _
            have hs43 : v42.heap.size < v43.heap.size := (Array.getElem?_eq_some_iff.1 X7_43).1
            rw [← e43]
            clear e43
            refine hK _ _ (fun _ _ => ⟨⟨_, B43⟩, rfl⟩) ?_
            clear hK K
            have ne : v35.heap.size ≠ v42.heap.size := by omega
            have l6 : w1.heap.size ≤ v35.heap.size := by omega
            have l7 : w1.heap.size ≤ v42.heap.size := by omega
            refine wpAnyT_line [12, 13] _ _ _ (by kernel_rfl) ?_
            simp only [pick, List.filterMap_cons, List.filterMap_nil, List.getElem?_toArray, List.getElem?_cons_succ, List.getElem?_cons_zero]
            refine wpList_store_rowTo rfl 39 (.tmp 6) (.tmp 12) rfl rfl (v35.heap.size) #[.int .i64 (bx1 px false), .int .i64 (bx2 px false), .int .i64 (bx1 py false), .int .i64 (bx2 py false), .int .u32 0] rfl rfl _ _ X6_43 (by kernel_rfl) rfl (by simp [Value.oneCell']) ?_
            refine wpList_store_rowTo rfl 39 (.tmp 7) (.tmp 17) rfl rfl (v42.heap.size) #[.int .i64 (bx1 px false), .int .i64 (bx2 px false), .int .i64 (bx1 py false), .int .i64 (bx2 py false), .int .u32 0] rfl rfl _ _ ((setRow_other _ _ _ _ (Ne.symm ne)).trans X7_43) (by kernel_rfl) rfl (by simp [Value.oneCell']) ?_
            have F6 := (setRow_other (v43.setRow (v35.heap.size) #[.int .i64 (bx1 px false), .int .i64 (bx2 px false), .int .i64 (bx1 py false), .int .i64 (bx2 py false), .int .u32 0]) (v42.heap.size) (v35.heap.size) #[.int .i64 (bx1 px false), .int .i64 (bx2 px false), .int .i64 (bx1 py false), .int .i64 (bx2 py false), .int .u32 0] ne).trans (setRow_heap _ _ _ #[.int .i64 (bx1 px false), .int .i64 (bx2 px false), .int .i64 (bx1 py false), .int .i64 (bx2 py false), .int .u32 0] _ _ X6_43)
            have F7 := setRow_heap (v43.setRow (v35.heap.size) #[.int .i64 (bx1 px false), .int .i64 (bx2 px false), .int .i64 (bx1 py false), .int .i64 (bx2 py false), .int .u32 0]) (v42.heap.size) _ #[.int .i64 (bx1 px false), .int .i64 (bx2 px false), .int .i64 (bx1 py false), .int .i64 (bx2 py false), .int .u32 0] _ _ ((setRow_other _ _ _ _ (Ne.symm ne)).trans X7_43)
            have FB := below_setRow (below_setRow B43 l6 #[.int .i64 (bx1 px false), .int .i64 (bx2 px false), .int .i64 (bx1 py false), .int .i64 (bx2 py false), .int .u32 0]) l7 #[.int .i64 (bx1 px false), .int .i64 (bx2 px false), .int .i64 (bx1 py false), .int .i64 (bx2 py false), .int .u32 0]
            generalize (v43.setRow (v35.heap.size) #[.int .i64 (bx1 px false), .int .i64 (bx2 px false), .int .i64 (bx1 py false), .int .i64 (bx2 py false), .int .u32 0]).setRow (v42.heap.size) #[.int .i64 (bx1 px false), .int .i64 (bx2 px false), .int .i64 (bx1 py false), .int .i64 (bx2 py false), .int .u32 0] = W9 at *
            go_wp2_with fail
            go_meet
            exact ⟨_, _, rfl, rfl, Lib.hid ne, by omega, by omega, Lib.hid (HB1.out.trans (FB.mono HB1.out.size)), Lib.hid ((FB.block _ HWL.out).trans HX1.out), Lib.hid F6, Lib.hid F7⟩
        · go_simp
          obtain ⟨v44, e44⟩ : ∃ W, W = v41.alloc (.cells #[.int .i64 0, .int .i64 0, .int .i64 0, .int .i64 0, .int .u32 0] 39) := ⟨_, rfl⟩
          have hb44 : Below v41.heap.size v41 v44 := by rw [e44]; exact (Below.refl _ _).alloc (Nat.le_refl _) _
          have B44 := B41.trans (hb44.mono B41.size)
          have X6_44 := (hb44.block _ (Array.getElem?_eq_some_iff.1 X6_41).1).trans X6_41
          have X7_44 : v44.heap[v41.heap.size]? = some (.cells #[.int .i64 0, .int .i64 0, .int .i64 0, .int .i64 0, .int .u32 0] 39 (0, 0) : Obj) := by rw [e44]; exact lit0 _ _
          have hs44 : v41.heap.size < v44.heap.size := (Array.getElem?_eq_some_iff.1 X7_44).1
          rw [← e44]
          clear e44
          refine hK _ _ (fun _ _ => ⟨⟨_, B44⟩, rfl⟩) ?_
          clear hK K
          refine wpAnyT_ready [9] (by kernel_rfl) (by simp) ?_
          refine AllReadyT.cons rfl (fun K hK => ?_) AllReadyT.nil
          · refine step_call ent_cbox rfl _ _ rfl (vals := #[.int .i64 px, .int .i64 py, .int .u8 0]) rfl (CB.out _) ?_
            rintro e v45 ⟨rfl, hb45⟩
            have B45 := B44.trans (hb45.mono B44.size)
            have X6_45 := (hb45.block _ (Array.getElem?_eq_some_iff.1 X6_44).1).trans X6_44
            have X7_45 := (hb45.block _ (Array.getElem?_eq_some_iff.1 X7_44).1).trans X7_44
            have hs45 := hb45.size
            refine ⟨_, rfl, ?_⟩
            refine hK _ _ (fun _ _ => ⟨⟨_, B45⟩, rfl⟩) ?_
            clear hK K
            have ne : v35.heap.size ≠ v41.heap.size := by omega
            have l6 : w1.heap.size ≤ v35.heap.size := by omega
            have l7 : w1.heap.size ≤ v41.heap.size := by omega
            refine wpAnyT_line [12, 13] _ _ _ (by kernel_rfl) ?_
            simp only [pick, List.filterMap_cons, List.filterMap_nil, List.getElem?_toArray, List.getElem?_cons_succ, List.getElem?_cons_zero]
            refine wpList_store_rowTo rfl 39 (.tmp 6) (.tmp 12) rfl rfl (v35.heap.size) #[.int .i64 (bx1 px false), .int .i64 (bx2 px false), .int .i64 (bx1 py false), .int .i64 (bx2 py false), .int .u32 0] rfl rfl _ _ X6_45 (by kernel_rfl) rfl (by simp [Value.oneCell']) ?_
            refine wpList_store_rowTo rfl 39 (.tmp 7) (.tmp 17) rfl rfl (v41.heap.size) #[.int .i64 (bx1 px false), .int .i64 (bx2 px false), .int .i64 (bx1 py false), .int .i64 (bx2 py false), .int .u32 0] rfl rfl _ _ ((setRow_other _ _ _ _ (Ne.symm ne)).trans X7_45) (by kernel_rfl) rfl (by simp [Value.oneCell']) ?_
            have F6 := (setRow_other (v45.setRow (v35.heap.size) #[.int .i64 (bx1 px false), .int .i64 (bx2 px false), .int .i64 (bx1 py false), .int .i64 (bx2 py false), .int .u32 0]) (v41.heap.size) (v35.heap.size) #[.int .i64 (bx1 px false), .int .i64 (bx2 px false), .int .i64 (bx1 py false), .int .i64 (bx2 py false), .int .u32 0] ne).trans (setRow_heap _ _ _ #[.int .i64 (bx1 px false), .int .i64 (bx2 px false), .int .i64 (bx1 py false), .int .i64 (bx2 py false), .int .u32 0] _ _ X6_45)
            have F7 := setRow_heap (v45.setRow (v35.heap.size) #[.int .i64 (bx1 px false), .int .i64 (bx2 px false), .int .i64 (bx1 py false), .int .i64 (bx2 py false), .int .u32 0]) (v41.heap.size) _ #[.int .i64 (bx1 px false), .int .i64 (bx2 px false), .int .i64 (bx1 py false), .int .i64 (bx2 py false), .int .u32 0] _ _ ((setRow_other _ _ _ _ (Ne.symm ne)).trans X7_45)
            have FB := below_setRow (below_setRow B45 l6 #[.int .i64 (bx1 px false), .int .i64 (bx2 px false), .int .i64 (bx1 py false), .int .i64 (bx2 py false), .int .u32 0]) l7 #[.int .i64 (bx1 px false), .int .i64 (bx2 px false), .int .i64 (bx1 py false), .int .i64 (bx2 py false), .int .u32 0]
            generalize (v45.setRow (v35.heap.size) #[.int .i64 (bx1 px false), .int .i64 (bx2 px false), .int .i64 (bx1 py false), .int .i64 (bx2 py false), .int .u32 0]).setRow (v41.heap.size) #[.int .i64 (bx1 px false), .int .i64 (bx2 px false), .int .i64 (bx1 py false), .int .i64 (bx2 py false), .int .u32 0] = W9 at *
            go_wp2_with fail
            go_meet
            exact ⟨_, _, rfl, rfl, Lib.hid ne, by omega, by omega, Lib.hid (HB1.out.trans (FB.mono HB1.out.size)), Lib.hid ((FB.block _ HWL.out).trans HX1.out), Lib.hid F6, Lib.hid F7⟩
      · go_simp
        obtain ⟨v46, e46⟩ : ∃ W, W = v35.alloc (.cells #[.int .i64 0, .int .i64 0, .int .i64 0, .int .i64 0, .int .u32 0] 39) := ⟨_, rfl⟩
        have hb46 : Below v35.heap.size v35 v46 := by rw [e46]; exact (Below.refl _ _).alloc (Nat.le_refl _) _
        have B46 := B35.trans (hb46.mono B35.size)
        have X7_46 : v46.heap[v35.heap.size]? = some (.cells #[.int .i64 0, .int .i64 0, .int .i64 0, .int .i64 0, .int .u32 0] 39 (0, 0) : Obj) := by rw [e46]; exact lit0 _ _
        have hs46 : v35.heap.size < v46.heap.size := (Array.getElem?_eq_some_iff.1 X7_46).1
        rw [← e46]
        clear e46
        refine hK _ _ (fun _ _ => ⟨⟨_, B46⟩, rfl⟩) ?_
        clear hK K
        refine wpAnyT_ready [9, 10] (by kernel_rfl) (by simp) ?_
        refine AllReadyT.cons rfl (fun K hK => ?_) (AllReadyT.cons rfl (fun K hK => ?_) AllReadyT.nil)
        · refine step_call ent_cbox rfl _ _ rfl (vals := #[.int .i64 px, .int .i64 py, .int .u8 0]) rfl (CB.out _) ?_
          rintro e v47 ⟨rfl, hb47⟩
          have B47 := B46.trans (hb47.mono B46.size)
          have X7_47 := (hb47.block _ (Array.getElem?_eq_some_iff.1 X7_46).1).trans X7_46
          have hs47 := hb47.size
          refine ⟨_, rfl, ?_⟩
          refine hK _ _ (fun _ _ => ⟨⟨_, B47⟩, rfl⟩) ?_
          clear hK K
          refine wpAnyT_ready [10] (by kernel_rfl) (by simp) ?_
          refine AllReadyT.cons rfl (fun K hK => ?_) AllReadyT.nil
          · go_simp
            obtain ⟨v48, e48⟩ : ∃ W, W = v47.alloc (.cells #[.int .i64 0, .int .i64 0, .int .i64 0, .int .i64 0, .int .u32 0] 39) := ⟨_, rfl⟩
            have hb48 : Below v47.heap.size v47 v48 := by rw [e48]; exact (Below.refl _ _).alloc (Nat.le_refl _) _
            have B48 := B47.trans (hb48.mono B47.size)
            have X7_48 := (hb48.block _ (Array.getElem?_eq_some_iff.1 X7_47).1).trans X7_47
            have X6_48 : v48.heap[v47.heap.size]? = some (.cells #[.int .i64 0, .int .i64 0, .int .i64 0, .int .i64 0, .int .u32 0] 39 (0, 0) : Obj) := by rw [e48]; exact lit0 _ _
            have hs48 : v47.heap.size < v48.heap.size := (Array.getElem?_eq_some_iff.1 X6_48).1
            rw [← e48]
            clear e48
            refine hK _ _ (fun _ _ => ⟨⟨_, B48⟩, rfl⟩) ?_
            clear hK K
            have ne : v47.heap.size ≠ v35.heap.size := by omega
            have l6 : w1.heap.size ≤ v47.heap.size := by omega
            have l7 : w1.heap.size ≤ v35.heap.size := by omega
            refine wpAnyT_line [12, 13] _ _ _ (by kernel_rfl) ?_
            simp only [pick, List.filterMap_cons, List.filterMap_nil, List.getElem?_toArray, List.getElem?_cons_succ, List.getElem?_cons_zero]
            refine wpList_store_rowTo rfl 39 (.tmp 6) (.tmp 12) rfl rfl (v47.heap.size) #[.int .i64 (bx1 px false), .int .i64 (bx2 px false), .int .i64 (bx1 py false), .int .i64 (bx2 py false), .int .u32 0] rfl rfl _ _ X6_48 (by kernel_rfl) rfl (by simp [Value.oneCell']) ?_
            refine wpList_store_rowTo rfl 39 (.tmp 7) (.tmp 17) rfl rfl (v35.heap.size) #[.int .i64 (bx1 px false), .int .i64 (bx2 px false), .int .i64 (bx1 py false), .int .i64 (bx2 py false), .int .u32 0] rfl rfl _ _ ((setRow_other _ _ _ _ (Ne.symm ne)).trans X7_48) (by kernel_rfl) rfl (by simp [Value.oneCell']) ?_
            have F6 := (setRow_other (v48.setRow (v47.heap.size) #[.int .i64 (bx1 px false), .int .i64 (bx2 px false), .int .i64 (bx1 py false), .int .i64 (bx2 py false), .int .u32 0]) (v35.heap.size) (v47.heap.size) #[.int .i64 (bx1 px false), .int .i64 (bx2 px false), .int .i64 (bx1 py false), .int .i64 (bx2 py false), .int .u32 0] ne).trans (setRow_heap _ _ _ #[.int .i64 (bx1 px false), .int .i64 (bx2 px false), .int .i64 (bx1 py false), .int .i64 (bx2 py false), .int .u32 0] _ _ X6_48)
            have F7 := setRow_heap (v48.setRow (v47.heap.size) #[.int .i64 (bx1 px false), .int .i64 (bx2 px false), .int .i64 (bx1 py false), .int .i64 (bx2 py false), .int .u32 0]) (v35.heap.size) _ #[.int .i64 (bx1 px false), .int .i64 (bx2 px false), .int .i64 (bx1 py false), .int .i64 (bx2 py false), .int .u32 0] _ _ ((setRow_other _ _ _ _ (Ne.symm ne)).trans X7_48)
            have FB := below_setRow (below_setRow B48 l6 #[.int .i64 (bx1 px false), .int .i64 (bx2 px false), .int .i64 (bx1 py false), .int .i64 (bx2 py false), .int .u32 0]) l7 #[.int .i64 (bx1 px false), .int .i64 (bx2 px false), .int .i64 (bx1 py false), .int .i64 (bx2 py false), .int .u32 0]
            generalize (v48.setRow (v47.heap.size) #[.int .i64 (bx1 px false), .int .i64 (bx2 px false), .int .i64 (bx1 py false), .int .i64 (bx2 py false), .int .u32 0]).setRow (v35.heap.size) #[.int .i64 (bx1 px false), .int .i64 (bx2 px false), .int .i64 (bx1 py false), .int .i64 (bx2 py false), .int .u32 0] = W9 at *
            go_wp2_with fail
            go_meet
            exact ⟨_, _, rfl, rfl, Lib.hid ne, by omega, by omega, Lib.hid (HB1.out.trans (FB.mono HB1.out.size)), Lib.hid ((FB.block _ HWL.out).trans HX1.out), Lib.hid F6, Lib.hid F7⟩
        · go_simp
          obtain ⟨v49, e49⟩ : ∃ W, W = v46.alloc (.cells #[.int .i64 0, .int .i64 0, .int .i64 0, .int .i64 0, .int .u32 0] 39) := ⟨_, rfl⟩
          have hb49 : Below v46.heap.size v46 v49 := by rw [e49]; exact (Below.refl _ _).alloc (Nat.le_refl _) _
          have B49 := B46.trans (hb49.mono B46.size)
          have X7_49 := (hb49.block _ (Array.getElem?_eq_some_iff.1 X7_46).1).trans X7_46
          have X6_49 : v49.heap[v46.heap.size]? = some (.cells #[.int .i64 0, .int .i64 0, .int .i64 0, .int .i64 0, .int .u32 0] 39 (0, 0) : Obj) := by rw [e49]; exact lit0 _ _
          have hs49 : v46.heap.size < v49.heap.size := (Array.getElem?_eq_some_iff.1 X6_49).1
          rw [← e49]
          clear e49
          refine hK _ _ (fun _ _ => ⟨⟨_, B49⟩, rfl⟩) ?_
          clear hK K
          refine wpAnyT_ready [9] (by kernel_rfl) (by simp) ?_
          refine AllReadyT.cons rfl (fun K hK => ?_) AllReadyT.nil
          · refine step_call ent_cbox rfl _ _ rfl (vals := #[.int .i64 px, .int .i64 py, .int .u8 0]) rfl (CB.out _) ?_
            rintro e v50 ⟨rfl, hb50⟩
            have B50 := B49.trans (hb50.mono B49.size)
            have X7_50 := (hb50.block _ (Array.getElem?_eq_some_iff.1 X7_49).1).trans X7_49
            have X6_50 := (hb50.block _ (Array.getElem?_eq_some_iff.1 X6_49).1).trans X6_49
            have hs50 := hb50.size
            refine ⟨_, rfl, ?_⟩
            refine hK _ _ (fun _ _ => ⟨⟨_, B50⟩, rfl⟩) ?_
            clear hK K
            have ne : v46.heap.size ≠ v35.heap.size := by omega
            have l6 : w1.heap.size ≤ v46.heap.size := by omega
            have l7 : w1.heap.size ≤ v35.heap.size := by omega
            refine wpAnyT_line [12, 13] _ _ _ (by kernel_rfl) ?_
            simp only [pick, List.filterMap_cons, List.filterMap_nil, List.getElem?_toArray, List.getElem?_cons_succ, List.getElem?_cons_zero]
            refine wpList_store_rowTo rfl 39 (.tmp 6) (.tmp 12) rfl rfl (v46.heap.size) #[.int .i64 (bx1 px false), .int .i64 (bx2 px false), .int .i64 (bx1 py false), .int .i64 (bx2 py false), .int .u32 0] rfl rfl _ _ X6_50 (by kernel_rfl) rfl (by simp [Value.oneCell']) ?_
            refine wpList_store_rowTo rfl 39 (.tmp 7) (.tmp 17) rfl rfl (v35.heap.size) #[.int .i64 (bx1 px false), .int .i64 (bx2 px false), .int .i64 (bx1 py false), .int .i64 (bx2 py false), .int .u32 0] rfl rfl _ _ ((setRow_other _ _ _ _ (Ne.symm ne)).trans X7_50) (by kernel_rfl) rfl (by simp [Value.oneCell']) ?_
            have F6 := (setRow_other (v50.setRow (v46.heap.size) #[.int .i64 (bx1 px false), .int .i64 (bx2 px false), .int .i64 (bx1 py false), .int .i64 (bx2 py false), .int .u32 0]) (v35.heap.size) (v46.heap.size) #[.int .i64 (bx1 px false), .int .i64 (bx2 px false), .int .i64 (bx1 py false), .int .i64 (bx2 py false), .int .u32 0] ne).trans (setRow_heap _ _ _ #[.int .i64 (bx1 px false), .int .i64 (bx2 px false), .int .i64 (bx1 py false), .int .i64 (bx2 py false), .int .u32 0] _ _ X6_50)
            have F7 := setRow_heap (v50.setRow (v46.heap.size) #[.int .i64 (bx1 px false), .int .i64 (bx2 px false), .int .i64 (bx1 py false), .int .i64 (bx2 py false), .int .u32 0]) (v35.heap.size) _ #[.int .i64 (bx1 px false), .int .i64 (bx2 px false), .int .i64 (bx1 py false), .int .i64 (bx2 py false), .int .u32 0] _ _ ((setRow_other _ _ _ _ (Ne.symm ne)).trans X7_50)
            have FB := below_setRow (below_setRow B50 l6 #[.int .i64 (bx1 px false), .int .i64 (bx2 px false), .int .i64 (bx1 py false), .int .i64 (bx2 py false), .int .u32 0]) l7 #[.int .i64 (bx1 px false), .int .i64 (bx2 px false), .int .i64 (bx1 py false), .int .i64 (bx2 py false), .int .u32 0]
            generalize (v50.setRow (v46.heap.size) #[.int .i64 (bx1 px false), .int .i64 (bx2 px false), .int .i64 (bx1 py false), .int .i64 (bx2 py false), .int .u32 0]).setRow (v35.heap.size) #[.int .i64 (bx1 px false), .int .i64 (bx2 px false), .int .i64 (bx1 py false), .int .i64 (bx2 py false), .int .u32 0] = W9 at *
            go_wp2_with fail
            go_meet
            exact ⟨_, _, rfl, rfl, Lib.hid ne, by omega, by omega, Lib.hid (HB1.out.trans (FB.mono HB1.out.size)), Lib.hid ((FB.block _ HWL.out).trans HX1.out), Lib.hid F6, Lib.hid F7⟩
    · go_simp
      obtain ⟨v51, e51⟩ : ∃ W, W = w0.alloc (.cells #[.int .i64 0, .int .i64 0, .int .i64 0, .int .i64 0, .int .u32 0] 39) := ⟨_, rfl⟩
      have hb51 : Below w0.heap.size w0 v51 := by rw [e51]; exact (Below.refl _ _).alloc (Nat.le_refl _) _
      have B51 := B0.trans (hb51.mono B0.size)
      have X6_51 : v51.heap[w0.heap.size]? = some (.cells #[.int .i64 0, .int .i64 0, .int .i64 0, .int .i64 0, .int .u32 0] 39 (0, 0) : Obj) := by rw [e51]; exact lit0 _ _
      have hs51 : w0.heap.size < v51.heap.size := (Array.getElem?_eq_some_iff.1 X6_51).1
      rw [← e51]
      clear e51
      refine hK _ _ (fun _ _ => ⟨⟨_, B51⟩, rfl⟩) ?_
      clear hK K
      refine wpAnyT_ready [4, 11] (by kernel_rfl) (by simp) ?_
      refine AllReadyT.cons rfl (fun K hK => ?_) (AllReadyT.cons rfl (fun K hK => ?_) AllReadyT.nil)
      · refine step_call ent_cbox rfl _ _ rfl (vals := #[.int .i64 px, .int .i64 py, .int .u8 0]) rfl (CB.out _) ?_
        rintro e v52 ⟨rfl, hb52⟩
        have B52 := B51.trans (hb52.mono B51.size)
        have X6_52 := (hb52.block _ (Array.getElem?_eq_some_iff.1 X6_51).1).trans X6_51
        have hs52 := hb52.size
        refine ⟨_, rfl, ?_⟩
        refine hK _ _ (fun _ _ => ⟨⟨_, B52⟩, rfl⟩) ?_
        clear hK K
        refine wpAnyT_ready [9, 11] (by kernel_rfl) (by simp) ?_
        refine AllReadyT.cons rfl (fun K hK => ?_) (AllReadyT.cons rfl (fun K hK => ?_) AllReadyT.nil)
        · refine step_call ent_cbox rfl _ _ rfl (vals := #[.int .i64 px, .int .i64 py, .int .u8 0]) rfl (CB.out _) ?_
          rintro e v53 ⟨rfl, hb53⟩
          have B53 := B52.trans (hb53.mono B52.size)
          have X6_53 := (hb53.block _ (Array.getElem?_eq_some_iff.1 X6_52).1).trans X6_52
          have hs53 := hb53.size
          refine ⟨_, rfl, ?_⟩
          refine hK _ _ (fun _ _ => ⟨⟨_, B53⟩, rfl⟩) ?_
          clear hK K
          refine wpAnyT_ready [11] (by kernel_rfl) (by simp) ?_
          refine AllReadyT.cons rfl (fun K hK => ?_) AllReadyT.nil
          · go_simp
            obtain ⟨v54, e54⟩ : ∃ W, W = v53.alloc (.cells #[.int .i64 0, .int .i64 0, .int .i64 0, .int .i64 0, .int .u32 0] 39) := ⟨_, rfl⟩
            have hb54 : Below v53.heap.size v53 v54 := by rw [e54]; exact (Below.refl _ _).alloc (Nat.le_refl _) _
            have B54 := B53.trans (hb54.mono B53.size)
            have X6_54 := (hb54.block _ (Array.getElem?_eq_some_iff.1 X6_53).1).trans X6_53
            have X7_54 : v54.heap[v53.heap.size]? = some (.cells #[.int .i64 0, .int .i64 0, .int .i64 0, .int .i64 0, .int .u32 0] 39 (0, 0) : Obj) := by rw [e54]; exact lit0 _ _
            have hs54 : v53.heap.size < v54.heap.size := (Array.getElem?_eq_some_iff.1 X7_54).1
            rw [← e54]
            clear e54
            refine hK _ _ (fun _ _ => ⟨⟨_, B54⟩, rfl⟩) ?_
            clear hK K
            have ne : w0.heap.size ≠ v53.heap.size := by omega
            have l6 : w1.heap.size ≤ w0.heap.size := by omega
            have l7 : w1.heap.size ≤ v53.heap.size := by omega
            refine wpAnyT_line [12, 13] _ _ _ (by kernel_rfl) ?_
            simp only [pick, List.filterMap_cons, List.filterMap_nil, List.getElem?_toArray, List.getElem?_cons_succ, List.getElem?_cons_zero]
            refine wpList_store_rowTo rfl 39 (.tmp 6) (.tmp 12) rfl rfl (w0.heap.size) #[.int .i64 (bx1 px false), .int .i64 (bx2 px false), .int .i64 (bx1 py false), .int .i64 (bx2 py false), .int .u32 0] rfl rfl _ _ X6_54 (by kernel_rfl) rfl (by simp [Value.oneCell']) ?_
            refine wpList_store_rowTo rfl 39 (.tmp 7) (.tmp 17) rfl rfl (v53.heap.size) #[.int .i64 (bx1 px false), .int .i64 (bx2 px false), .int .i64 (bx1 py false), .int .i64 (bx2 py false), .int .u32 0] rfl rfl _ _ ((setRow_other _ _ _ _ (Ne.symm ne)).trans X7_54) (by kernel_rfl) rfl (by simp [Value.oneCell']) ?_
            have F6 := (setRow_other (v54.setRow (w0.heap.size) #[.int .i64 (bx1 px false), .int .i64 (bx2 px false), .int .i64 (bx1 py false), .int .i64 (bx2 py false), .int .u32 0]) (v53.heap.size) (w0.heap.size) #[.int .i64 (bx1 px false), .int .i64 (bx2 px false), .int .i64 (bx1 py false), .int .i64 (bx2 py false), .int .u32 0] ne).trans (setRow_heap _ _ _ #[.int .i64 (bx1 px false), .int .i64 (bx2 px false), .int .i64 (bx1 py false), .int .i64 (bx2 py false), .int .u32 0] _ _ X6_54)
            have F7 := setRow_heap (v54.setRow (w0.heap.size) #[.int .i64 (bx1 px false), .int .i64 (bx2 px false), .int .i64 (bx1 py false), .int .i64 (bx2 py false), .int .u32 0]) (v53.heap.size) _ #[.int .i64 (bx1 px false), .int .i64 (bx2 px false), .int .i64 (bx1 py false), .int .i64 (bx2 py false), .int .u32 0] _ _ ((setRow_other _ _ _ _ (Ne.symm ne)).trans X7_54)
            have FB := below_setRow (below_setRow B54 l6 #[.int .i64 (bx1 px false), .int .i64 (bx2 px false), .int .i64 (bx1 py false), .int .i64 (bx2 py false), .int .u32 0]) l7 #[.int .i64 (bx1 px false), .int .i64 (bx2 px false), .int .i64 (bx1 py false), .int .i64 (bx2 py false), .int .u32 0]
            generalize (v54.setRow (w0.heap.size) #[.int .i64 (bx1 px false), .int .i64 (bx2 px false), .int .i64 (bx1 py false), .int .i64 (bx2 py false), .int .u32 0]).setRow (v53.heap.size) #[.int .i64 (bx1 px false), .int .i64 (bx2 px false), .int .i64 (bx1 py false), .int .i64 (bx2 py false), .int .u32 0] = W9 at *
            go_wp2_with fail
            go_meet
            exact ⟨_, _, rfl, rfl, Lib.hid ne, by omega, by omega, Lib.hid (HB1.out.trans (FB.mono HB1.out.size)), Lib.hid ((FB.block _ HWL.out).trans HX1.out), Lib.hid F6, Lib.hid F7⟩
        · go_simp
          obtain ⟨v55, e55⟩ : ∃ W, W = v52.alloc (.cells #[.int .i64 0, .int .i64 0, .int .i64 0, .int .i64 0, .int .u32 0] 39) := ⟨_, rfl⟩
          have hb55 : Below v52.heap.size v52 v55 := by rw [e55]; exact (Below.refl _ _).alloc (Nat.le_refl _) _
          have B55 := B52.trans (hb55.mono B52.size)
          have X6_55 := (hb55.block _ (Array.getElem?_eq_some_iff.1 X6_52).1).trans X6_52
          have X7_55 : v55.heap[v52.heap.size]? = some (.cells #[.int .i64 0, .int .i64 0, .int .i64 0, .int .i64 0, .int .u32 0] 39 (0, 0) : Obj) := by rw [e55]; exact lit0 _ _
          have hs55 : v52.heap.size < v55.heap.size := (Array.getElem?_eq_some_iff.1 X7_55).1
          rw [← e55]
          clear e55
          refine hK _ _ (fun _ _ => ⟨⟨_, B55⟩, rfl⟩) ?_
          clear hK K
          refine wpAnyT_ready [9] (by kernel_rfl) (by simp) ?_
          refine AllReadyT.cons rfl (fun K hK => ?_) AllReadyT.nil
          · refine step_call ent_cbox rfl _ _ rfl (vals := #[.int .i64 px, .int .i64 py, .int .u8 0]) rfl (CB.out _) ?_
            rintro e v56 ⟨rfl, hb56⟩
            have B56 := B55.trans (hb56.mono B55.size)
            have X6_56 := (hb56.block _ (Array.getElem?_eq_some_iff.1 X6_55).1).trans X6_55
            have X7_56 := (hb56.block _ (Array.getElem?_eq_some_iff.1 X7_55).1).trans X7_55
            have hs56 := hb56.size
            refine ⟨_, rfl, ?_⟩
            refine hK _ _ (fun _ _ => ⟨⟨_, B56⟩, rfl⟩) ?_
            clear hK K
            have ne : w0.heap.size ≠ v52.heap.size := by omega
            have l6 : w1.heap.size ≤ w0.heap.size := by omega
            have l7 : w1.heap.size ≤ v52.heap.size := by omega
            refine wpAnyT_line [12, 13] _ _ _ (by kernel_rfl) ?_
            simp only [pick, List.filterMap_cons, List.filterMap_nil, List.getElem?_toArray, List.getElem?_cons_succ, List.getElem?_cons_zero]
            refine wpList_store_rowTo rfl 39 (.tmp 6) (.tmp 12) rfl rfl (w0.heap.size) #[.int .i64 (bx1 px false), .int .i64 (bx2 px false), .int .i64 (bx1 py false), .int .i64 (bx2 py false), .int .u32 0] rfl rfl _ _ X6_56 (by kernel_rfl) rfl (by simp [Value.oneCell']) ?_
            refine wpList_store_rowTo rfl 39 (.tmp 7) (.tmp 17) rfl rfl (v52.heap.size) #[.int .i64 (bx1 px false), .int .i64 (bx2 px false), .int .i64 (bx1 py false), .int .i64 (bx2 py false), .int .u32 0] rfl rfl _ _ ((setRow_other _ _ _ _ (Ne.symm ne)).trans X7_56) (by kernel_rfl) rfl (by simp [Value.oneCell']) ?_
            have F6 := (setRow_other (v56.setRow (w0.heap.size) #[.int .i64 (bx1 px false), .int .i64 (bx2 px false), .int .i64 (bx1 py false), .int .i64 (bx2 py false), .int .u32 0]) (v52.heap.size) (w0.heap.size) #[.int .i64 (bx1 px false), .int .i64 (bx2 px false), .int .i64 (bx1 py false), .int .i64 (bx2 py false), .int .u32 0] ne).trans (setRow_heap _ _ _ #[.int .i64 (bx1 px false), .int .i64 (bx2 px false), .int .i64 (bx1 py false), .int .i64 (bx2 py false), .int .u32 0] _ _ X6_56)
            have F7 := setRow_heap (v56.setRow (w0.heap.size) #[.int .i64 (bx1 px false), .int .i64 (bx2 px false), .int .i64 (bx1 py false), .int .i64 (bx2 py false), .int .u32 0]) (v52.heap.size) _ #[.int .i64 (bx1 px false), .int .i64 (bx2 px false), .int .i64 (bx1 py false), .int .i64 (bx2 py false), .int .u32 0] _ _ ((setRow_other _ _ _ _ (Ne.symm ne)).trans X7_56)
            have FB := below_setRow (below_setRow B56 l6 #[.int .i64 (bx1 px false), .int .i64 (bx2 px false), .int .i64 (bx1 py false), .int .i64 (bx2 py false), .int .u32 0]) l7 #[.int .i64 (bx1 px false), .int .i64 (bx2 px false), .int .i64 (bx1 py false), .int .i64 (bx2 py false), .int .u32 0]
            generalize (v56.setRow (w0.heap.size) #[.int .i64 (bx1 px false), .int .i64 (bx2 px false), .int .i64 (bx1 py false), .int .i64 (bx2 py false), .int .u32 0]).setRow (v52.heap.size) #[.int .i64 (bx1 px false), .int .i64 (bx2 px false), .int .i64 (bx1 py false), .int .i64 (bx2 py false), .int .u32 0] = W9 at *
            go_wp2_with fail
            go_meet
            exact ⟨_, _, rfl, rfl, Lib.hid ne, by omega, by omega, Lib.hid (HB1.out.trans (FB.mono HB1.out.size)), Lib.hid ((FB.block _ HWL.out).trans HX1.out), Lib.hid F6, Lib.hid F7⟩
      · go_simp
        obtain ⟨v57, e57⟩ : ∃ W, W = v51.alloc (.cells #[.int .i64 0, .int .i64 0, .int .i64 0, .int .i64 0, .int .u32 0] 39) := ⟨_, rfl⟩
        have hb57 : Below v51.heap.size v51 v57 := by rw [e57]; exact (Below.refl _ _).alloc (Nat.le_refl _) _
        have B57 := B51.trans (hb57.mono B51.size)
        have X6_57 := (hb57.block _ (Array.getElem?_eq_some_iff.1 X6_51).1).trans X6_51
        have X7_57 : v57.heap[v51.heap.size]? = some (.cells #[.int .i64 0, .int .i64 0, .int .i64 0, .int .i64 0, .int .u32 0] 39 (0, 0) : Obj) := by rw [e57]; exact lit0 _ _
        have hs57 : v51.heap.size < v57.heap.size := (Array.getElem?_eq_some_iff.1 X7_57).1
        rw [← e57]
        clear e57
        refine hK _ _ (fun _ _ => ⟨⟨_, B57⟩, rfl⟩) ?_
        clear hK K
        refine wpAnyT_ready [4] (by kernel_rfl) (by simp) ?_
        refine AllReadyT.cons rfl (fun K hK => ?_) AllReadyT.nil
        · refine step_call ent_cbox rfl _ _ rfl (vals := #[.int .i64 px, .int .i64 py, .int .u8 0]) rfl (CB.out _) ?_
          rintro e v58 ⟨rfl, hb58⟩
          have B58 := B57.trans (hb58.mono B57.size)
          have X6_58 := (hb58.block _ (Array.getElem?_eq_some_iff.1 X6_57).1).trans X6_57
          have X7_58 := (hb58.block _ (Array.getElem?_eq_some_iff.1 X7_57).1).trans X7_57
          have hs58 := hb58.size
          refine ⟨_, rfl, ?_⟩
          refine hK _ _ (fun _ _ => ⟨⟨_, B58⟩, rfl⟩) ?_
          clear hK K
          refine wpAnyT_ready [9] (by kernel_rfl) (by simp) ?_
          refine AllReadyT.cons rfl (fun K hK => ?_) AllReadyT.nil
          · refine step_call ent_cbox rfl _ _ rfl (vals := #[.int .i64 px, .int .i64 py, .int .u8 0]) rfl (CB.out _) ?_
            rintro e v59 ⟨rfl, hb59⟩
            have B59 := B58.trans (hb59.mono B58.size)
            have X6_59 := (hb59.block _ (Array.getElem?_eq_some_iff.1 X6_58).1).trans X6_58
            have X7_59 := (hb59.block _ (Array.getElem?_eq_some_iff.1 X7_58).1).trans X7_58
            have hs59 := hb59.size
            refine ⟨_, rfl, ?_⟩
            refine hK _ _ (fun _ _ => ⟨⟨_, B59⟩, rfl⟩) ?_
            clear hK K
            have ne : w0.heap.size ≠ v51.heap.size := by omega
            have l6 : w1.heap.size ≤ w0.heap.size := by omega
            have l7 : w1.heap.size ≤ v51.heap.size := by omega
            refine wpAnyT_line [12, 13] _ _ _ (by kernel_rfl) ?_
            simp only [pick, List.filterMap_cons, List.filterMap_nil, List.getElem?_toArray, List.getElem?_cons_succ, List.getElem?_cons_zero]
            refine wpList_store_rowTo rfl 39 (.tmp 6) (.tmp 12) rfl rfl (w0.heap.size) #[.int .i64 (bx1 px false), .int .i64 (bx2 px false), .int .i64 (bx1 py false), .int .i64 (bx2 py false), .int .u32 0] rfl rfl _ _ X6_59 (by kernel_rfl) rfl (by simp [Value.oneCell']) ?_
            refine wpList_store_rowTo rfl 39 (.tmp 7) (.tmp 17) rfl rfl (v51.heap.size) #[.int .i64 (bx1 px false), .int .i64 (bx2 px false), .int .i64 (bx1 py false), .int .i64 (bx2 py false), .int .u32 0] rfl rfl _ _ ((setRow_other _ _ _ _ (Ne.symm ne)).trans X7_59) (by kernel_rfl) rfl (by simp [Value.oneCell']) ?_
            have F6 := (setRow_other (v59.setRow (w0.heap.size) #[.int .i64 (bx1 px false), .int .i64 (bx2 px false), .int .i64 (bx1 py false), .int .i64 (bx2 py false), .int .u32 0]) (v51.heap.size) (w0.heap.size) #[.int .i64 (bx1 px false), .int .i64 (bx2 px false), .int .i64 (bx1 py false), .int .i64 (bx2 py false), .int .u32 0] ne).trans (setRow_heap _ _ _ #[.int .i64 (bx1 px false), .int .i64 (bx2 px false), .int .i64 (bx1 py false), .int .i64 (bx2 py false), .int .u32 0] _ _ X6_59)
            have F7 := setRow_heap (v59.setRow (w0.heap.size) #[.int .i64 (bx1 px false), .int .i64 (bx2 px false), .int .i64 (bx1 py false), .int .i64 (bx2 py false), .int .u32 0]) (v51.heap.size) _ #[.int .i64 (bx1 px false), .int .i64 (bx2 px false), .int .i64 (bx1 py false), .int .i64 (bx2 py false), .int .u32 0] _ _ ((setRow_other _ _ _ _ (Ne.symm ne)).trans X7_59)
            have FB := below_setRow (below_setRow B59 l6 #[.int .i64 (bx1 px false), .int .i64 (bx2 px false), .int .i64 (bx1 py false), .int .i64 (bx2 py false), .int .u32 0]) l7 #[.int .i64 (bx1 px false), .int .i64 (bx2 px false), .int .i64 (bx1 py false), .int .i64 (bx2 py false), .int .u32 0]
            generalize (v59.setRow (w0.heap.size) #[.int .i64 (bx1 px false), .int .i64 (bx2 px false), .int .i64 (bx1 py false), .int .i64 (bx2 py false), .int .u32 0]).setRow (v51.heap.size) #[.int .i64 (bx1 px false), .int .i64 (bx2 px false), .int .i64 (bx1 py false), .int .i64 (bx2 py false), .int .u32 0] = W9 at *
            go_wp2_with fail
            go_meet
            exact ⟨_, _, rfl, rfl, Lib.hid ne, by omega, by omega, Lib.hid (HB1.out.trans (FB.mono HB1.out.size)), Lib.hid ((FB.block _ HWL.out).trans HX1.out), Lib.hid F6, Lib.hid F7⟩
    · go_simp
      obtain ⟨v60, e60⟩ : ∃ W, W = w0.alloc (.cells #[.int .i64 0, .int .i64 0, .int .i64 0, .int .i64 0, .int .u32 0] 39) := ⟨_, rfl⟩
      have hb60 : Below w0.heap.size w0 v60 := by rw [e60]; exact (Below.refl _ _).alloc (Nat.le_refl _) _
      have B60 := B0.trans (hb60.mono B0.size)
      have X7_60 : v60.heap[w0.heap.size]? = some (.cells #[.int .i64 0, .int .i64 0, .int .i64 0, .int .i64 0, .int .u32 0] 39 (0, 0) : Obj) := by rw [e60]; exact lit0 _ _
      have hs60 : w0.heap.size < v60.heap.size := (Array.getElem?_eq_some_iff.1 X7_60).1
      rw [← e60]
      clear e60
      refine hK _ _ (fun _ _ => ⟨⟨_, B60⟩, rfl⟩) ?_
      clear hK K
      refine wpAnyT_ready [4, 10] (by kernel_rfl) (by simp) ?_
      refine AllReadyT.cons rfl (fun K hK => ?_) (AllReadyT.cons rfl (fun K hK => ?_) AllReadyT.nil)
      · refine step_call ent_cbox rfl _ _ rfl (vals := #[.int .i64 px, .int .i64 py, .int .u8 0]) rfl (CB.out _) ?_
        rintro e v61 ⟨rfl, hb61⟩
        have B61 := B60.trans (hb61.mono B60.size)
        have X7_61 := (hb61.block _ (Array.getElem?_eq_some_iff.1 X7_60).1).trans X7_60
        have hs61 := hb61.size
        refine ⟨_, rfl, ?_⟩
        refine hK _ _ (fun _ _ => ⟨⟨_, B61⟩, rfl⟩) ?_
        clear hK K
        refine wpAnyT_ready [9, 10] (by kernel_rfl) (by simp) ?_
        refine AllReadyT.cons rfl (fun K hK => ?_) (AllReadyT.cons rfl (fun K hK => ?_) AllReadyT.nil)
        · refine step_call ent_cbox rfl _ _ rfl (vals := #[.int .i64 px, .int .i64 py, .int .u8 0]) rfl (CB.out _) ?_
          rintro e v62 ⟨rfl, hb62⟩
          have B62 := B61.trans (hb62.mono B61.size)
          have X7_62 := (hb62.block _ (Array.getElem?_eq_some_iff.1 X7_61).1).trans X7_61
          have hs62 := hb62.size
          refine ⟨_, rfl, ?_⟩
          refine hK _ _ (fun _ _ => ⟨⟨_, B62⟩, rfl⟩) ?_
          clear hK K
          refine wpAnyT_ready [10] (by kernel_rfl) (by simp) ?_
          refine AllReadyT.cons rfl (fun K hK => ?_) AllReadyT.nil
          · go_simp
            obtain ⟨v63, e63⟩ : ∃ W, W = v62.alloc (.cells #[.int .i64 0, .int .i64 0, .int .i64 0, .int .i64 0, .int .u32 0] 39) := ⟨_, rfl⟩
            have hb63 : Below v62.heap.size v62 v63 := by rw [e63]; exact (Below.refl _ _).alloc (Nat.le_refl _) _
            have B63 := B62.trans (hb63.mono B62.size)
            have X7_63 := (hb63.block _ (Array.getElem?_eq_some_iff.1 X7_62).1).trans X7_62
            have X6_63 : v63.heap[v62.heap.size]? = some (.cells #[.int .i64 0, .int .i64 0, .int .i64 0, .int .i64 0, .int .u32 0] 39 (0, 0) : Obj) := by rw [e63]; exact lit0 _ _
            have hs63 : v62.heap.size < v63.heap.size := (Array.getElem?_eq_some_iff.1 X6_63).1
            rw [← e63]
            clear e63
            refine hK _ _ (fun _ _ => ⟨⟨_, B63⟩, rfl⟩) ?_
            clear hK K
            have ne : v62.heap.size ≠ w0.heap.size := by omega
            have l6 : w1.heap.size ≤ v62.heap.size := by omega
            have l7 : w1.heap.size ≤ w0.heap.size := by omega
            refine wpAnyT_line [12, 13] _ _ _ (by kernel_rfl) ?_
            simp only [pick, List.filterMap_cons, List.filterMap_nil, List.getElem?_toArray, List.getElem?_cons_succ, List.getElem?_cons_zero]
            refine wpList_store_rowTo rfl 39 (.tmp 6) (.tmp 12) rfl rfl (v62.heap.size) #[.int .i64 (bx1 px false), .int .i64 (bx2 px false), .int .i64 (bx1 py false), .int .i64 (bx2 py false), .int .u32 0] rfl rfl _ _ X6_63 (by kernel_rfl) rfl (by simp [Value.oneCell']) ?_
            refine wpList_store_rowTo rfl 39 (.tmp 7) (.tmp 17) rfl rfl (w0.heap.size) #[.int .i64 (bx1 px false), .int .i64 (bx2 px false), .int .i64 (bx1 py false), .int .i64 (bx2 py false), .int .u32 0] rfl rfl _ _ ((setRow_other _ _ _ _ (Ne.symm ne)).trans X7_63) (by kernel_rfl) rfl (by simp [Value.oneCell']) ?_
            have F6 := (setRow_other (v63.setRow (v62.heap.size) #[.int .i64 (bx1 px false), .int .i64 (bx2 px false), .int .i64 (bx1 py false), .int .i64 (bx2 py false), .int .u32 0]) (w0.heap.size) (v62.heap.size) #[.int .i64 (bx1 px false), .int .i64 (bx2 px false), .int .i64 (bx1 py false), .int .i64 (bx2 py false), .int .u32 0] ne).trans (setRow_heap _ _ _ #[.int .i64 (bx1 px false), .int .i64 (bx2 px false), .int .i64 (bx1 py false), .int .i64 (bx2 py false), .int .u32 0] _ _ X6_63)
            have F7 := setRow_heap (v63.setRow (v62.heap.size) #[.int .i64 (bx1 px false), .int .i64 (bx2 px false), .int .i64 (bx1 py false), .int .i64 (bx2 py false), .int .u32 0]) (w0.heap.size) _ #[.int .i64 (bx1 px false), .int .i64 (bx2 px false), .int .i64 (bx1 py false), .int .i64 (bx2 py false), .int .u32 0] _ _ ((setRow_other _ _ _ _ (Ne.symm ne)).trans X7_63)
            have FB := below_setRow (below_setRow B63 l6 #[.int .i64 (bx1 px false), .int .i64 (bx2 px false), .int .i64 (bx1 py false), .int .i64 (bx2 py false), .int .u32 0]) l7 #[.int .i64 (bx1 px false), .int .i64 (bx2 px false), .int .i64 (bx1 py false), .int .i64 (bx2 py false), .int .u32 0]
            generalize (v63.setRow (v62.heap.size) #[.int .i64 (bx1 px false), .int .i64 (bx2 px false), .int .i64 (bx1 py false), .int .i64 (bx2 py false), .int .u32 0]).setRow (w0.heap.size) #[.int .i64 (bx1 px false), .int .i64 (bx2 px false), .int .i64 (bx1 py false), .int .i64 (bx2 py false), .int .u32 0] = W9 at *
            go_wp2_with fail
            go_meet
            exact ⟨_, _, rfl, rfl, Lib.hid ne, by omega, by omega, Lib.hid (HB1.out.trans (FB.mono HB1.out.size)), Lib.hid ((FB.block _ HWL.out).trans HX1.out), Lib.hid F6, Lib.hid F7⟩
        · go_simp
          obtain ⟨v64, e64⟩ : ∃ W, W = v61.alloc (.cells #[.int .i64 0, .int .i64 0, .int .i64 0, .int .i64 0, .int .u32 0] 39) := ⟨_, rfl⟩
          have hb64 : Below v61.heap.size v61 v64 := by rw [e64]; exact (Below.refl _ _).alloc (Nat.le_refl _) _
          have B64 := B61.trans (hb64.mono B61.size)
          have X7_64 := (hb64.block _ (Array.getElem?_eq_some_iff.1 X7_61).1).trans X7_61
          have X6_64 : v64.heap[v61.heap.size]? = some (.cells #[.int .i64 0, .int .i64 0, .int .i64 0, .int .i64 0, .int .u32 0] 39 (0, 0) : Obj) := by rw [e64]; exact lit0 _ _
          have hs64 : v61.heap.size < v64.heap.size := (Array.getElem?_eq_some_iff.1 X6_64).1
          rw [← e64]
          clear e64
          refine hK _ _ (fun _ _ => ⟨⟨_, B64⟩, rfl⟩) ?_
          clear hK K
          refine wpAnyT_ready [9] (by kernel_rfl) (by simp) ?_
          refine AllReadyT.cons rfl (fun K hK => ?_) AllReadyT.nil
          · refine step_call ent_cbox rfl _ _ rfl (vals := #[.int .i64 px, .int .i64 py, .int .u8 0]) rfl (CB.out _) ?_
            rintro e v65 ⟨rfl, hb65⟩
            have B65 := B64.trans (hb65.mono B64.size)
            have X7_65 := (hb65.block _ (Array.getElem?_eq_some_iff.1 X7_64).1).trans X7_64
            have X6_65 := (hb65.block _ (Array.getElem?_eq_some_iff.1 X6_64).1).trans X6_64
            have hs65 := hb65.size
            refine ⟨_, rfl, ?_⟩
            refine hK _ _ (fun _ _ => ⟨⟨_, B65⟩, rfl⟩) ?_
            clear hK K
            have ne : v61.heap.size ≠ w0.heap.size := by omega
            have l6 : w1.heap.size ≤ v61.heap.size := by omega
            have l7 : w1.heap.size ≤ w0.heap.size := by omega
            refine wpAnyT_line [12, 13] _ _ _ (by kernel_rfl) ?_
            simp only [pick, List.filterMap_cons, List.filterMap_nil, List.getElem?_toArray, List.getElem?_cons_succ, List.getElem?_cons_zero]
            refine wpList_store_rowTo rfl 39 (.tmp 6) (.tmp 12) rfl rfl (v61.heap.size) #[.int .i64 (bx1 px false), .int .i64 (bx2 px false), .int .i64 (bx1 py false), .int .i64 (bx2 py false), .int .u32 0] rfl rfl _ _ X6_65 (by kernel_rfl) rfl (by simp [Value.oneCell']) ?_
            refine wpList_store_rowTo rfl 39 (.tmp 7) (.tmp 17) rfl rfl (w0.heap.size) #[.int .i64 (bx1 px false), .int .i64 (bx2 px false), .int .i64 (bx1 py false), .int .i64 (bx2 py false), .int .u32 0] rfl rfl _ _ ((setRow_other _ _ _ _ (Ne.symm ne)).trans X7_65) (by kernel_rfl) rfl (by simp [Value.oneCell']) ?_
            have F6 := (setRow_other (v65.setRow (v61.heap.size) #[.int .i64 (bx1 px false), .int .i64 (bx2 px false), .int .i64 (bx1 py false), .int .i64 (bx2 py false), .int .u32 0]) (w0.heap.size) (v61.heap.size) #[.int .i64 (bx1 px false), .int .i64 (bx2 px false), .int .i64 (bx1 py false), .int .i64 (bx2 py false), .int .u32 0] ne).trans (setRow_heap _ _ _ #[.int .i64 (bx1 px false), .int .i64 (bx2 px false), .int .i64 (bx1 py false), .int .i64 (bx2 py false), .int .u32 0] _ _ X6_65)
            have F7 := setRow_heap (v65.setRow (v61.heap.size) #[.int .i64 (bx1 px false), .int .i64 (bx2 px false), .int .i64 (bx1 py false), .int .i64 (bx2 py false), .int .u32 0]) (w0.heap.size) _ #[.int .i64 (bx1 px false), .int .i64 (bx2 px false), .int .i64 (bx1 py false), .int .i64 (bx2 py false), .int .u32 0] _ _ ((setRow_other _ _ _ _ (Ne.symm ne)).trans X7_65)
            have FB := below_setRow (below_setRow B65 l6 #[.int .i64 (bx1 px false), .int .i64 (bx2 px false), .int .i64 (bx1 py false), .int .i64 (bx2 py false), .int .u32 0]) l7 #[.int .i64 (bx1 px false), .int .i64 (bx2 px false), .int .i64 (bx1 py false), .int .i64 (bx2 py false), .int .u32 0]
            generalize (v65.setRow (v61.heap.size) #[.int .i64 (bx1 px false), .int .i64 (bx2 px false), .int .i64 (bx1 py false), .int .i64 (bx2 py false), .int .u32 0]).setRow (w0.heap.size) #[.int .i64 (bx1 px false), .int .i64 (bx2 px false), .int .i64 (bx1 py false), .int .i64 (bx2 py false), .int .u32 0] = W9 at *
            go_wp2_with fail
            go_meet
            exact ⟨_, _, rfl, rfl, Lib.hid ne, by omega, by omega, Lib.hid (HB1.out.trans (FB.mono HB1.out.size)), Lib.hid ((FB.block _ HWL.out).trans HX1.out), Lib.hid F6, Lib.hid F7⟩
      · go_simp
        obtain ⟨v66, e66⟩ : ∃ W, W = v60.alloc (.cells #[.int .i64 0, .int .i64 0, .int .i64 0, .int .i64 0, .int .u32 0] 39) := ⟨_, rfl⟩
        have hb66 : Below v60.heap.size v60 v66 := by rw [e66]; exact (Below.refl _ _).alloc (Nat.le_refl _) _
        have B66 := B60.trans (hb66.mono B60.size)
        have X7_66 := (hb66.block _ (Array.getElem?_eq_some_iff.1 X7_60).1).trans X7_60
        have X6_66 : v66.heap[v60.heap.size]? = some (.cells #[.int .i64 0, .int .i64 0, .int .i64 0, .int .i64 0, .int .u32 0] 39 (0, 0) : Obj) := by rw [e66]; exact lit0 _ _
        have hs66 : v60.heap.size < v66.heap.size := (Array.getElem?_eq_some_iff.1 X6_66).1
        rw [← e66]
        clear e66
        refine hK _ _ (fun _ _ => ⟨⟨_, B66⟩, rfl⟩) ?_
        clear hK K
        refine wpAnyT_ready [4] (by kernel_rfl) (by simp) ?_
        refine AllReadyT.cons rfl (fun K hK => ?_) AllReadyT.nil
        · refine step_call ent_cbox rfl _ _ rfl (vals := #[.int .i64 px, .int .i64 py, .int .u8 0]) rfl (CB.out _) ?_
          rintro e v67 ⟨rfl, hb67⟩
          have B67 := B66.trans (hb67.mono B66.size)
          have X7_67 := (hb67.block _ (Array.getElem?_eq_some_iff.1 X7_66).1).trans X7_66
          have X6_67 := (hb67.block _ (Array.getElem?_eq_some_iff.1 X6_66).1).trans X6_66
          have hs67 := hb67.size
          refine ⟨_, rfl, ?_⟩
          refine hK _ _ (fun _ _ => ⟨⟨_, B67⟩, rfl⟩) ?_
          clear hK K
          refine wpAnyT_ready [9] (by kernel_rfl) (by simp) ?_
          refine AllReadyT.cons rfl (fun K hK => ?_) AllReadyT.nil
          · refine step_call ent_cbox rfl _ _ rfl (vals := #[.int .i64 px, .int .i64 py, .int .u8 0]) rfl (CB.out _) ?_
            rintro e v68 ⟨rfl, hb68⟩
            have B68 := B67.trans (hb68.mono B67.size)
            have X7_68 := (hb68.block _ (Array.getElem?_eq_some_iff.1 X7_67).1).trans X7_67
            have X6_68 := (hb68.block _ (Array.getElem?_eq_some_iff.1 X6_67).1).trans X6_67
            have hs68 := hb68.size
            refine ⟨_, rfl, ?_⟩
            refine hK _ _ (fun _ _ => ⟨⟨_, B68⟩, rfl⟩) ?_
            clear hK K
            have ne : v60.heap.size ≠ w0.heap.size := by omega
            have l6 : w1.heap.size ≤ v60.heap.size := by omega
            have l7 : w1.heap.size ≤ w0.heap.size := by omega
            refine wpAnyT_line [12, 13] _ _ _ (by kernel_rfl) ?_
            simp only [pick, List.filterMap_cons, List.filterMap_nil, List.getElem?_toArray, List.getElem?_cons_succ, List.getElem?_cons_zero]
            refine wpList_store_rowTo rfl 39 (.tmp 6) (.tmp 12) rfl rfl (v60.heap.size) #[.int .i64 (bx1 px false), .int .i64 (bx2 px false), .int .i64 (bx1 py false), .int .i64 (bx2 py false), .int .u32 0] rfl rfl _ _ X6_68 (by kernel_rfl) rfl (by simp [Value.oneCell']) ?_
            refine wpList_store_rowTo rfl 39 (.tmp 7) (.tmp 17) rfl rfl (w0.heap.size) #[.int .i64 (bx1 px false), .int .i64 (bx2 px false), .int .i64 (bx1 py false), .int .i64 (bx2 py false), .int .u32 0] rfl rfl _ _ ((setRow_other _ _ _ _ (Ne.symm ne)).trans X7_68) (by kernel_rfl) rfl (by simp [Value.oneCell']) ?_
            have F6 := (setRow_other (v68.setRow (v60.heap.size) #[.int .i64 (bx1 px false), .int .i64 (bx2 px false), .int .i64 (bx1 py false), .int .i64 (bx2 py false), .int .u32 0]) (w0.heap.size) (v60.heap.size) #[.int .i64 (bx1 px false), .int .i64 (bx2 px false), .int .i64 (bx1 py false), .int .i64 (bx2 py false), .int .u32 0] ne).trans (setRow_heap _ _ _ #[.int .i64 (bx1 px false), .int .i64 (bx2 px false), .int .i64 (bx1 py false), .int .i64 (bx2 py false), .int .u32 0] _ _ X6_68)
            have F7 := setRow_heap (v68.setRow (v60.heap.size) #[.int .i64 (bx1 px false), .int .i64 (bx2 px false), .int .i64 (bx1 py false), .int .i64 (bx2 py false), .int .u32 0]) (w0.heap.size) _ #[.int .i64 (bx1 px false), .int .i64 (bx2 px false), .int .i64 (bx1 py false), .int .i64 (bx2 py false), .int .u32 0] _ _ ((setRow_other _ _ _ _ (Ne.symm ne)).trans X7_68)
            have FB := below_setRow (below_setRow B68 l6 #[.int .i64 (bx1 px false), .int .i64 (bx2 px false), .int .i64 (bx1 py false), .int .i64 (bx2 py false), .int .u32 0]) l7 #[.int .i64 (bx1 px false), .int .i64 (bx2 px false), .int .i64 (bx1 py false), .int .i64 (bx2 py false), .int .u32 0]
            generalize (v68.setRow (v60.heap.size) #[.int .i64 (bx1 px false), .int .i64 (bx2 px false), .int .i64 (bx1 py false), .int .i64 (bx2 py false), .int .u32 0]).setRow (w0.heap.size) #[.int .i64 (bx1 px false), .int .i64 (bx2 px false), .int .i64 (bx1 py false), .int .i64 (bx2 py false), .int .u32 0] = W9 at *
            go_wp2_with fail
            go_meet
            exact ⟨_, _, rfl, rfl, Lib.hid ne, by omega, by omega, Lib.hid (HB1.out.trans (FB.mono HB1.out.size)), Lib.hid ((FB.block _ HWL.out).trans HX1.out), Lib.hid F6, Lib.hid F7⟩
  case rest =>
    obtain ⟨g6, g7, rfl, rfl, hne, h6, h7, HB, HP, H6, H7⟩ := hcut
    have q1 : wc.cell? ⟨w.heap.size, 0, none⟩ = some (.int .i64 px) := (obP_cells HP.out).1
    have q2 : wc.cell? ⟨w.heap.size, 1, none⟩ = some (.int .i64 py) := (obP_cells HP.out).2.1
    go_upto_if 20 with fail
    clear q1 q2
    go_cut [] from 20 (fun wx => Hid (Below w.heap.size w wx) ∧ Hid (wx.heap[w.heap.size]? = some (obP (px, py, pi))) ∧ Hid (wx.heap[g6]? = some (objBx (bxO (belowB (px, py, pi))))) ∧ Hid (wx.heap[g7]? = some (objBx (((-9223372036854775808), px, (-9223372036854775808), py, 0)))))
    case first =>
      have y0 : wc.cell? ⟨g6, 0, none⟩ = some (.int .i64 (-9223372036854775808)) := (objBx_cells H6.out).1
      have y1 : wc.cell? ⟨g6, 1, none⟩ = some (.int .i64 px) := (objBx_cells H6.out).2.1
      have y2 : wc.cell? ⟨g6, 2, none⟩ = some (.int .i64 (-9223372036854775808)) := (objBx_cells H6.out).2.2.1
      have y3 : wc.cell? ⟨g6, 3, none⟩ = some (.int .i64 py) := (objBx_cells H6.out).2.2.2.1
      have y4 : wc.cell? ⟨g6, 4, none⟩ = some (.int .u32 0) := (objBx_cells H6.out).2.2.2.2
      have yz0 : wc.frozen? ⟨g6, 0, none⟩ = false := by simp [World.frozen?, H6.out, objBx]
      have yz1 : wc.frozen? ⟨g6, 1, none⟩ = false := by simp [World.frozen?, H6.out, objBx]
      have yz2 : wc.frozen? ⟨g6, 2, none⟩ = false := by simp [World.frozen?, H6.out, objBx]
      have yz3 : wc.frozen? ⟨g6, 3, none⟩ = false := by simp [World.frozen?, H6.out, objBx]
      have yz4 : wc.frozen? ⟨g6, 4, none⟩ = false := by simp [World.frozen?, H6.out, objBx]
      have hy := HY.out
      simp only [leastI, mostI] at hy
      by_cases e : py = (-9223372036854775808)
      · have d : (py == (-9223372036854775808)) = true := by simp [e]
        have E := Lib.hid e
        clear e
        go_wp2_with (first
          | (go_at_call 51; refine (NT.out _).mono ?_; rintro e2 w2 ⟨rfl, hb2⟩; have X2 := (hb2.block _ (Array.getElem?_eq_some_iff.1 H6.out).1).trans H6.out; have X3 := (hb2.block _ (Array.getElem?_eq_some_iff.1 H7.out).1).trans H7.out; have X4 := (hb2.block _ (Array.getElem?_eq_some_iff.1 HP.out).1).trans HP.out)
          | (refine wpList_store_rowTo rfl 39 (.tmp 6) (.tmp 21) rfl rfl g6 #[.int .i64 1, .int .i64 0, .int .i64 0, .int .i64 0, .int .u32 0] rfl rfl _ _ X2 (by kernel_rfl) rfl (by simp [Value.oneCell']) ?_))
        go_meet
        have BB := (HB.out.trans (hb2.mono HB.out.size))
        exact ⟨Lib.hid (below_setRow BB (by omega) _), Lib.hid ((setRow_other _ _ _ _ (by omega)).trans X4), Lib.hid ((setRow_heap _ _ _ _ _ _ X2).trans (congrArg some (show objBx (bxO (belowB (px, py, pi))) = _ by rw [show belowB (px, py, pi) = noB by simp [belowB, E.out]]; rfl).symm)), Lib.hid ((setRow_other _ _ _ _ (Ne.symm hne.out)).trans X3)⟩
      · have d : (py == (-9223372036854775808)) = false := by simp [e]
        have el : (-9223372036854775808) < py := by omega
        have E := Lib.hid e
        clear e
        go_wp2
        go_meet
        have S1 := heap_setCell_same wc g6 3 _ _ (Value.int .i64 (py - 1)) H6.out
        exact ⟨Lib.hid (HB.out.setCell (by show w.heap.size ≤ g6; omega) _), Lib.hid ((heap_setNe (by show g6 ≠ w.heap.size; omega)).trans HP.out), Lib.hid (S1.trans (congrArg some (show _ = objBx (bxO (belowB (px, py, pi))) by rw [show belowB (px, py, pi) = ((-9223372036854775808), px, (-9223372036854775808), py - 1) by simp [belowB, E.out]]; rfl))), Lib.hid ((heap_setNe (by show g6 ≠ g7; exact hne.out)).trans H7.out)⟩
    case rest =>
    clear HB HP H6 H7
    obtain ⟨HB, HP, H6, H7⟩ := hcut
    have q1 : wc.cell? ⟨w.heap.size, 0, none⟩ = some (.int .i64 px) := (obP_cells HP.out).1
    have q2 : wc.cell? ⟨w.heap.size, 1, none⟩ = some (.int .i64 py) := (obP_cells HP.out).2.1
    go_upto_if 28 with fail
    go_cut [] from 28 (fun wx => Hid (Below w.heap.size w wx) ∧ Hid (wx.heap[w.heap.size]? = some (obP (px, py, pi))) ∧ Hid (wx.heap[g6]? = some (objBx (bxO (belowB (px, py, pi))))) ∧ Hid (wx.heap[g7]? = some (objBx (bxO (leftB (px, py, pi))))))
    case first =>
      have y0 : wc.cell? ⟨g7, 0, none⟩ = some (.int .i64 (-9223372036854775808)) := (objBx_cells H7.out).1
      have y1 : wc.cell? ⟨g7, 1, none⟩ = some (.int .i64 px) := (objBx_cells H7.out).2.1
      have y2 : wc.cell? ⟨g7, 2, none⟩ = some (.int .i64 (-9223372036854775808)) := (objBx_cells H7.out).2.2.1
      have y3 : wc.cell? ⟨g7, 3, none⟩ = some (.int .i64 py) := (objBx_cells H7.out).2.2.2.1
      have y4 : wc.cell? ⟨g7, 4, none⟩ = some (.int .u32 0) := (objBx_cells H7.out).2.2.2.2
      have yz0 : wc.frozen? ⟨g7, 0, none⟩ = false := by simp [World.frozen?, H7.out, objBx]
      have yz1 : wc.frozen? ⟨g7, 1, none⟩ = false := by simp [World.frozen?, H7.out, objBx]
      have yz2 : wc.frozen? ⟨g7, 2, none⟩ = false := by simp [World.frozen?, H7.out, objBx]
      have yz3 : wc.frozen? ⟨g7, 3, none⟩ = false := by simp [World.frozen?, H7.out, objBx]
      have yz4 : wc.frozen? ⟨g7, 4, none⟩ = false := by simp [World.frozen?, H7.out, objBx]
      have hx := HX.out
      simp only [leastI, mostI] at hx
      by_cases e : px = (-9223372036854775808)
      · have d : (px == (-9223372036854775808)) = true := by simp [e]
        have E := Lib.hid e
        clear e
        go_wp2_with (first
          | (go_at_call 51; refine (NT.out _).mono ?_; rintro e2 w2 ⟨rfl, hb2⟩; have X2 := (hb2.block _ (Array.getElem?_eq_some_iff.1 H7.out).1).trans H7.out; have X3 := (hb2.block _ (Array.getElem?_eq_some_iff.1 H6.out).1).trans H6.out; have X4 := (hb2.block _ (Array.getElem?_eq_some_iff.1 HP.out).1).trans HP.out)
          | (refine wpList_store_rowTo rfl 39 (.tmp 7) (.tmp 29) rfl rfl g7 #[.int .i64 1, .int .i64 0, .int .i64 0, .int .i64 0, .int .u32 0] rfl rfl _ _ X2 (by kernel_rfl) rfl (by simp [Value.oneCell']) ?_))
        go_meet
        have BB := (HB.out.trans (hb2.mono HB.out.size))
        exact ⟨Lib.hid (below_setRow BB (by omega) _), Lib.hid ((setRow_other _ _ _ _ (by omega)).trans X4), Lib.hid ((setRow_other _ _ _ _ hne.out).trans X3), Lib.hid ((setRow_heap _ _ _ _ _ _ X2).trans (congrArg some (show objBx (bxO (leftB (px, py, pi))) = _ by rw [show leftB (px, py, pi) = noB by simp [leftB, E.out]]; rfl).symm))⟩
      · have d : (px == (-9223372036854775808)) = false := by simp [e]
        have el : (-9223372036854775808) < px := by omega
        have E := Lib.hid e
        clear e
        have nwg : w.heap.size ≠ g7 := by omega
        go_wp2
        go_meet
        have S1 := heap_setCell_same wc g7 1 _ _ (Value.int .i64 (px - 1)) H7.out
        have S2 := heap_setCell_same _ g7 2 _ _ (Value.int .i64 py) S1
        exact ⟨Lib.hid ((HB.out.setCell (by show w.heap.size ≤ g7; omega) _).setCell (by show w.heap.size ≤ g7; omega) _), Lib.hid ((heap_setNe (by show g7 ≠ w.heap.size; omega)).trans ((heap_setNe (by show g7 ≠ w.heap.size; omega)).trans HP.out)), Lib.hid ((heap_setNe (by show g7 ≠ g6; exact Ne.symm hne.out)).trans ((heap_setNe (by show g7 ≠ g6; exact Ne.symm hne.out)).trans H6.out)), Lib.hid (S2.trans (congrArg some (show _ = objBx (bxO (leftB (px, py, pi))) by rw [show leftB (px, py, pi) = ((-9223372036854775808), px - 1, py, py) by simp [leftB, E.out]]; rfl)))⟩
    case rest =>
    clear HB HP H6 H7
    obtain ⟨HB, HP, H6, H7⟩ := hcut
    generalize belowB (px, py, pi) = A at *
    generalize leftB (px, py, pi) = B at *
    obtain ⟨A1, A2, A3, A4⟩ := A
    obtain ⟨B1, B2, B3, B4⟩ := B
    have y0 : wc.cell? ⟨g6, 0, none⟩ = some (.int .i64 A1) := (objBx_cells H6.out).1
    have y1 : wc.cell? ⟨g6, 1, none⟩ = some (.int .i64 A2) := (objBx_cells H6.out).2.1
    have y2 : wc.cell? ⟨g6, 2, none⟩ = some (.int .i64 A3) := (objBx_cells H6.out).2.2.1
    have y3 : wc.cell? ⟨g6, 3, none⟩ = some (.int .i64 A4) := (objBx_cells H6.out).2.2.2.1
    have y4 : wc.cell? ⟨g6, 4, none⟩ = some (.int .u32 0) := (objBx_cells H6.out).2.2.2.2
    have yz0 : wc.frozen? ⟨g6, 0, none⟩ = false := by simp [World.frozen?, H6.out, objBx]
    have yz1 : wc.frozen? ⟨g6, 1, none⟩ = false := by simp [World.frozen?, H6.out, objBx]
    have yz2 : wc.frozen? ⟨g6, 2, none⟩ = false := by simp [World.frozen?, H6.out, objBx]
    have yz3 : wc.frozen? ⟨g6, 3, none⟩ = false := by simp [World.frozen?, H6.out, objBx]
    have yz4 : wc.frozen? ⟨g6, 4, none⟩ = false := by simp [World.frozen?, H6.out, objBx]
    have x0 : wc.cell? ⟨g7, 0, none⟩ = some (.int .i64 B1) := (objBx_cells H7.out).1
    have x1 : wc.cell? ⟨g7, 1, none⟩ = some (.int .i64 B2) := (objBx_cells H7.out).2.1
    have x2 : wc.cell? ⟨g7, 2, none⟩ = some (.int .i64 B3) := (objBx_cells H7.out).2.2.1
    have x3 : wc.cell? ⟨g7, 3, none⟩ = some (.int .i64 B4) := (objBx_cells H7.out).2.2.2.1
    have x4 : wc.cell? ⟨g7, 4, none⟩ = some (.int .u32 0) := (objBx_cells H7.out).2.2.2.2
    have xz0 : wc.frozen? ⟨g7, 0, none⟩ = false := by simp [World.frozen?, H7.out, objBx]
    have xz1 : wc.frozen? ⟨g7, 1, none⟩ = false := by simp [World.frozen?, H7.out, objBx]
    have xz2 : wc.frozen? ⟨g7, 2, none⟩ = false := by simp [World.frozen?, H7.out, objBx]
    have xz3 : wc.frozen? ⟨g7, 3, none⟩ = false := by simp [World.frozen?, H7.out, objBx]
    have xz4 : wc.frozen? ⟨g7, 4, none⟩ = false := by simp [World.frozen?, H7.out, objBx]
    have hlit : ∀ W, Below wc.heap.size wc W → True := fun _ _ => trivial
    go_wp2_with fail
    have RL := RdK.lit (sz := 5) eBx_len wc 39 [bxO (A1, A2, A3, A4), bxO (B1, B2, B3, B4)] wc.heap.size rfl
    have b1 : Below wc.heap.size wc (wc.alloc (.cells #[.int .i64 A1, .int .i64 A2, .int .i64 A3, .int .i64 A4, .int .u32 0, .int .i64 B1, .int .i64 B2, .int .i64 B3, .int .i64 B4, .int .u32 0] 39)) := (Below.refl _ _).alloc (Nat.le_refl _) _
    have BF := HB.out.trans (b1.mono HB.out.size)
    have CF := CC.out _ BF _ RL
    refine CF.mono ?_
    rintro e w9 ⟨v, c, rfl, hR⟩
    have HR := Lib.hid hR
    have HBF := Lib.hid BF
    clear hR CF RL BF b1
    go_wp2_with fail
    go_ret2
    exact ⟨v, c, rfl, _, HBF.out, HR.out⟩
end Go.Proofs.YthplgcakhniidaaGreat
