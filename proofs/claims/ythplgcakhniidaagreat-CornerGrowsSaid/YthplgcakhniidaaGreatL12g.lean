/- The law CornerGrows, walked. -/
import Derived.Test.YthplgcakhniidaaGreatL12w
import Derived.Test.YthplgcakhniidaaGreatL12k
import Derived.Laws.Tables
import Derived.Laws.CopyOwn
import Derived.Great.BuildSlice
import Derived.Deep.CutRange
namespace Go.Proofs.YthplgcakhniidaaGreat
open Go.RowKit Go.Maps
attribute [local irreducible] wpQuiet
attribute [local go_sem] Oper.still1
set_option linter.unusedSimpArgs false
set_option linter.unusedVariables false

theorem frzP {W : World} {b : Nat} {p : Pt} (h : W.heap[b]? = some (obP p)) (k : Nat) : W.frozen? ⟨b, k, none⟩ = false := by simp [World.frozen?, h, obP]

set_option maxRecDepth 100000 in
set_option maxHeartbeats 8000000 in
theorem wCornerGrows (a : Option Addr) (l : List Pt) (n c : Nat) (p q : Pt) (way : Int) (w : World) (hn : l.length = n) (h : RdK ePt 3 w a l) (hf : wfL l) (hp : (Lit.int .i64 p.1).wf = true ∧ (Lit.int .i64 p.2.1).wf = true) (hq : (Lit.int .i64 q.1).wf = true ∧ (Lit.int .i64 q.2.1).wf = true) (hway : (Lit.int .u8 way).wf = true) :
    Calls Tryz.prog 11 #[.slice a n c, vPt p.1 p.2.1 p.2.2, vPt q.1 q.2.1 q.2.2, .int .u8 way] w fun e w' => e = .returned (.bool true) ∧ Below w.heap.size w w' := by
  subst hn
  obtain ⟨px, py, pi⟩ := p
  obtain ⟨qx, qy, qi⟩ := q
  have h0 : 0 ≤ way := by simp [Lit.wf, IntKind.min, IntKind.max, IntKind.signed, IntKind.bits] at hway; omega
  have AW := Lib.hid (fun W => awake12 W)
  obtain ⟨M, e1⟩ : ∃ M, Int.tmod way 4 = M := ⟨_, rfl⟩
  obtain ⟨bx, b_y, hM⟩ : ∃ bx b_y : Bool, M = (if bx then 1 else 0) + (if b_y then 2 else 0) := by
    have h1 : 0 ≤ M := by rw [← e1]; exact Int.tmod_nonneg 4 h0
    have h2 : M < 4 := by rw [← e1]; exact Int.tmod_lt_of_pos way (by decide)
    exact ⟨_, _, way_eq h1 h2⟩
  have e2 : (Int.tmod M 2 == 1) = bx := by subst hM; cases bx <;> cases b_y <;> rfl
  have e3 : decide (2 ≤ M) = b_y := by subst hM; cases bx <;> cases b_y <;> rfl
  have HMM := Lib.hid hM
  have hw : wfN l := fun p hp => (hf p hp).2.2
  have HR := Lib.hid h
  have HWL := Lib.hid hf
  clear hM hway h0 h hf hp hq
  by_cases hlen : l.length ≤ 80
  · have dl : decide (80 < (l.length : Int)) = false := by simp; omega
    rcases Bool.eq_false_or_eq_true (unl l) with hu | hu
    · have HU := Lib.hid (show (ids l).Nodup by unfold unl at hu; simpa using hu)
      have cb1 := Lib.hid (fun W (r : RdK ePt 3 W a l) => coBuild a c l W r (by omega) hw hu)
      clear hu hw
      go_enter Tryz.func11, Tryz.ntmps11
      go_wp2_with fail
      have b0 : Below w.heap.size w ((w.alloc (.cells #[.int .i64 px, .int .i64 py, .int .u32 pi] 34)).alloc (.cells #[.int .i64 qx, .int .i64 qy, .int .u32 qi] 34)) := ((Below.refl _ _).alloc (Nat.le_refl _) _).alloc (by simp) _
      have P0 : ((w.alloc (.cells #[.int .i64 px, .int .i64 py, .int .u32 pi] 34)).alloc (.cells #[.int .i64 qx, .int .i64 qy, .int .u32 qi] 34)).heap[w.heap.size]? = some (obP (px, py, pi)) := lit1 _ _ _
      have Q0 : ((w.alloc (.cells #[.int .i64 px, .int .i64 py, .int .u32 pi] 34)).alloc (.cells #[.int .i64 qx, .int .i64 qy, .int .u32 qi] 34)).heap[w.heap.size + 1]? = some (obP (qx, qy, qi)) := lit2 _ _ _
      refine (cb1.out _ (HR.out.below b0)).mono ?_
      rintro e w1 ⟨cb, rfl, T1, hb1⟩
      have P1 := (hb1.block _ (Array.getElem?_eq_some_iff.1 P0).1).trans P0
      have Q1 := (hb1.block _ (Array.getElem?_eq_some_iff.1 Q0).1).trans Q0
      have B1 := b0.trans (hb1.mono b0.size)
      have HT := Lib.hid T1
      have hpl := (Array.getElem?_eq_some_iff.1 P1).1
      have hql := (Array.getElem?_eq_some_iff.1 Q1).1
      have HP1 := Lib.hid P1
      have HQ1 := Lib.hid Q1
      have HB1 := Lib.hid B1
      clear b0 P0 Q0 hb1 B1 T1 cb1
      go_upto_region 7 with fail
      clear P1 Q1
      go_cut [11, 12] from 34 (fun v1 v2 wx => ∃ g1 g2, v1 = .pointer (some ⟨g1, 0, none⟩) ∧ v2 = .pointer (some ⟨g2, 0, none⟩) ∧ Hid (g1 ≠ g2) ∧ w1.heap.size ≤ g1 ∧ w1.heap.size ≤ g2 ∧ Hid (Below w1.heap.size w1 wx) ∧ Hid (wx.heap[g1]? = some (obP (px, py, pi))) ∧ Hid (wx.heap[g2]? = some (obP (px, py, pi))))
      case first =>
        have HX0 := Lib.hid (show w1.drew.heap[w.heap.size]? = some (obP (px, py, pi)) from HP1.out)
        have gC : ∀ p : HeldW (fun W : World => W.heap[w.heap.size]? = some (obP (px, py, pi))), p.W.cell? ⟨w.heap.size, 0, none⟩ = some (.int .i64 px) := fun p => (obP_cells p.h).1
        have gD : ∀ p : HeldW (fun W : World => W.heap[w.heap.size]? = some (obP (px, py, pi))), p.W.cell? ⟨w.heap.size, 1, none⟩ = some (.int .i64 py) := fun p => (obP_cells p.h).2.1
        have gE : ∀ p : HeldW (fun W : World => W.heap[w.heap.size]? = some (obP (px, py, pi))), p.W.cell? ⟨w.heap.size, 2, none⟩ = some (.int .u32 pi) := fun p => (obP_cells p.h).2.2
        refine wp_region_head (fun W => ∃ p : HeldW (fun W : World => W.heap[w.heap.size]? = some (obP (px, py, pi))), W = p.W) [5] [(0, true), (1, true)] (by kernel_rfl) (by kernel_rfl) (fun _ _ d _ _ h => by cases d <;> exact h) ⟨⟨_, HX0.out⟩, rfl⟩ 4 rfl (by kernel_rfl) ?_
        simp only [pickB, List.filterMap_cons, List.filterMap_nil, List.getElem?_toArray, List.getElem?_cons_succ, List.getElem?_cons_zero, Option.map_some]
        repeat (refine wpHd_step (fun K hK => ?_); go_simp; first | (refine hK _ ?_; clear hK K) | (apply Exists.intro; refine ⟨fun _ => ?_, hK _ ?_⟩; rfl; clear hK K))
        refine wpHd_nil ?_
        have hw0 : w.heap.size < w1.drew.heap.size := hpl
        have hw10 : w1.heap.size = w1.drew.heap.size := rfl
        have HD0 := Lib.hid (show Below w1.heap.size w1 w1.drew from (Below.refl _ _).drew)
        generalize w1.drew = w0 at *
        refine wpAnyT_ready [2, 3] (by kernel_rfl) (by simp) ?_
        refine AllReadyT.cons rfl (fun K hK => ?_) (AllReadyT.cons rfl (fun K hK => ?_) AllReadyT.nil)
        · go_simp
          obtain ⟨v1, e1'⟩ : ∃ W, W = w0.alloc (.cells #[.int .i64 0, .int .i64 0, .int .u32 0] 34) := ⟨_, rfl⟩
          have hb1 : Below w0.heap.size w0 v1 := by rw [e1']; exact (Below.refl _ _).alloc (Nat.le_refl _) _
          have XA1 : v1.heap[w0.heap.size]? = some ((.cells #[.int .i64 0, .int .i64 0, .int .u32 0] 34 (0, 0)) : Obj) := by rw [e1']; exact lit0 _ _
          have hs1 : w0.heap.size < v1.heap.size := (Array.getElem?_eq_some_iff.1 XA1).1
          rw [← e1']
          clear e1'
          refine hK _ _ (fun _ _ => ⟨⟨_, (hb1.block _ hw0).trans HX0.out⟩, rfl⟩) ?_
          clear hK K
          refine wpAnyT_ready [3] (by kernel_rfl) (by simp) ?_
          refine AllReadyT.cons rfl (fun K hK => ?_) AllReadyT.nil
          go_simp
          obtain ⟨v2, e2'⟩ : ∃ W, W = v1.alloc (.cells #[.int .i64 0, .int .i64 0, .int .u32 0] 34) := ⟨_, rfl⟩
          have hb2 : Below v1.heap.size v1 v2 := by rw [e2']; exact (Below.refl _ _).alloc (Nat.le_refl _) _
          have XB2 : v2.heap[v1.heap.size]? = some ((.cells #[.int .i64 0, .int .i64 0, .int .u32 0] 34 (0, 0)) : Obj) := by rw [e2']; exact lit0 _ _
          have XA2 := (hb2.block _ hs1).trans XA1
          have hs2 : v1.heap.size < v2.heap.size := (Array.getElem?_eq_some_iff.1 XB2).1
          have BB : Below w0.heap.size w0 v2 := hb1.trans (hb2.mono (Nat.le_of_lt hs1))
          have XP2 := (BB.block _ hw0).trans HX0.out
          rw [← e2']
          clear e2'
          refine hK _ _ (fun _ _ => ⟨⟨_, XP2⟩, rfl⟩) ?_
          clear hK K
          have ne : w0.heap.size ≠ v1.heap.size := by omega
          refine wpAnyT_ready [4] (by kernel_rfl) (by simp) ?_
          refine AllReadyT.cons rfl (fun K hK => ?_) AllReadyT.nil
          rw [if_pos (by simp [Region.wanted])]
          refine wp_store_row 34 (.tmp 11) (.tmp 34) rfl (w0.heap.size) #[.int .i64 px, .int .i64 py, .int .u32 pi] rfl rfl _ _ XA2 (by kernel_rfl) rfl (by simp [Value.oneCell']) ?_
          refine hK _ _ (fun _ _ => ⟨⟨_, (setRow_other _ _ _ _ (by omega)).trans XP2⟩, rfl⟩) ?_
          clear hK K
          refine wpAnyT_line [5] _ _ _ (by kernel_rfl) ?_
          simp only [pick, List.filterMap_cons, List.filterMap_nil, List.getElem?_toArray, List.getElem?_cons_succ, List.getElem?_cons_zero]
          refine wpList_store_rowTo rfl 34 (.tmp 12) (.tmp 35) rfl rfl (v1.heap.size) #[.int .i64 px, .int .i64 py, .int .u32 pi] rfl rfl _ _ ((setRow_other _ _ _ _ (Ne.symm ne)).trans XB2) (by kernel_rfl) rfl (by simp [Value.oneCell']) ?_
          have F1 := (setRow_other (v2.setRow (w0.heap.size) #[.int .i64 px, .int .i64 py, .int .u32 pi]) (v1.heap.size) (w0.heap.size) #[.int .i64 px, .int .i64 py, .int .u32 pi] ne).trans (setRow_heap _ _ _ #[.int .i64 px, .int .i64 py, .int .u32 pi] _ _ XA2)
          have F2 := setRow_heap (v2.setRow (w0.heap.size) #[.int .i64 px, .int .i64 py, .int .u32 pi]) (v1.heap.size) _ #[.int .i64 px, .int .i64 py, .int .u32 pi] _ _ ((setRow_other _ _ _ _ (Ne.symm ne)).trans XB2)
          have FB := below_setRow (below_setRow BB (show w0.heap.size ≤ w0.heap.size by omega) #[.int .i64 px, .int .i64 py, .int .u32 pi]) (show w0.heap.size ≤ v1.heap.size by omega) #[.int .i64 px, .int .i64 py, .int .u32 pi]
          generalize (v2.setRow (w0.heap.size) #[.int .i64 px, .int .i64 py, .int .u32 pi]).setRow (v1.heap.size) #[.int .i64 px, .int .i64 py, .int .u32 pi] = W9 at *
          go_wp2_with fail
          go_meet
          exact ⟨_, _, rfl, rfl, Lib.hid ne, by omega, by omega, Lib.hid (Below.trans HD0.out (FB.mono (Nat.le_of_eq hw10))), Lib.hid F1, Lib.hid F2⟩
        · go_simp
          obtain ⟨v1, e1'⟩ : ∃ W, W = w0.alloc (.cells #[.int .i64 0, .int .i64 0, .int .u32 0] 34) := ⟨_, rfl⟩
          have hb1 : Below w0.heap.size w0 v1 := by rw [e1']; exact (Below.refl _ _).alloc (Nat.le_refl _) _
          have XA1 : v1.heap[w0.heap.size]? = some ((.cells #[.int .i64 0, .int .i64 0, .int .u32 0] 34 (0, 0)) : Obj) := by rw [e1']; exact lit0 _ _
          have hs1 : w0.heap.size < v1.heap.size := (Array.getElem?_eq_some_iff.1 XA1).1
          rw [← e1']
          clear e1'
          refine hK _ _ (fun _ _ => ⟨⟨_, (hb1.block _ hw0).trans HX0.out⟩, rfl⟩) ?_
          clear hK K
          refine wpAnyT_ready [2] (by kernel_rfl) (by simp) ?_
          refine AllReadyT.cons rfl (fun K hK => ?_) AllReadyT.nil
          go_simp
          obtain ⟨v2, e2'⟩ : ∃ W, W = v1.alloc (.cells #[.int .i64 0, .int .i64 0, .int .u32 0] 34) := ⟨_, rfl⟩
          have hb2 : Below v1.heap.size v1 v2 := by rw [e2']; exact (Below.refl _ _).alloc (Nat.le_refl _) _
          have XB2 : v2.heap[v1.heap.size]? = some ((.cells #[.int .i64 0, .int .i64 0, .int .u32 0] 34 (0, 0)) : Obj) := by rw [e2']; exact lit0 _ _
          have XA2 := (hb2.block _ hs1).trans XA1
          have hs2 : v1.heap.size < v2.heap.size := (Array.getElem?_eq_some_iff.1 XB2).1
          have BB : Below w0.heap.size w0 v2 := hb1.trans (hb2.mono (Nat.le_of_lt hs1))
          have XP2 := (BB.block _ hw0).trans HX0.out
          rw [← e2']
          clear e2'
          refine hK _ _ (fun _ _ => ⟨⟨_, XP2⟩, rfl⟩) ?_
          clear hK K
          have ne : v1.heap.size ≠ w0.heap.size := by omega
          refine wpAnyT_ready [4] (by kernel_rfl) (by simp) ?_
          refine AllReadyT.cons rfl (fun K hK => ?_) AllReadyT.nil
          rw [if_pos (by simp [Region.wanted])]
          refine wp_store_row 34 (.tmp 11) (.tmp 34) rfl (v1.heap.size) #[.int .i64 px, .int .i64 py, .int .u32 pi] rfl rfl _ _ XB2 (by kernel_rfl) rfl (by simp [Value.oneCell']) ?_
          refine hK _ _ (fun _ _ => ⟨⟨_, (setRow_other _ _ _ _ (by omega)).trans XP2⟩, rfl⟩) ?_
          clear hK K
          refine wpAnyT_line [5] _ _ _ (by kernel_rfl) ?_
          simp only [pick, List.filterMap_cons, List.filterMap_nil, List.getElem?_toArray, List.getElem?_cons_succ, List.getElem?_cons_zero]
          refine wpList_store_rowTo rfl 34 (.tmp 12) (.tmp 35) rfl rfl (w0.heap.size) #[.int .i64 px, .int .i64 py, .int .u32 pi] rfl rfl _ _ ((setRow_other _ _ _ _ (Ne.symm ne)).trans XA2) (by kernel_rfl) rfl (by simp [Value.oneCell']) ?_
          have F1 := (setRow_other (v2.setRow (v1.heap.size) #[.int .i64 px, .int .i64 py, .int .u32 pi]) (w0.heap.size) (v1.heap.size) #[.int .i64 px, .int .i64 py, .int .u32 pi] ne).trans (setRow_heap _ _ _ #[.int .i64 px, .int .i64 py, .int .u32 pi] _ _ XB2)
          have F2 := setRow_heap (v2.setRow (v1.heap.size) #[.int .i64 px, .int .i64 py, .int .u32 pi]) (w0.heap.size) _ #[.int .i64 px, .int .i64 py, .int .u32 pi] _ _ ((setRow_other _ _ _ _ (Ne.symm ne)).trans XA2)
          have FB := below_setRow (below_setRow BB (show w0.heap.size ≤ v1.heap.size by omega) #[.int .i64 px, .int .i64 py, .int .u32 pi]) (show w0.heap.size ≤ w0.heap.size by omega) #[.int .i64 px, .int .i64 py, .int .u32 pi]
          generalize (v2.setRow (v1.heap.size) #[.int .i64 px, .int .i64 py, .int .u32 pi]).setRow (w0.heap.size) #[.int .i64 px, .int .i64 py, .int .u32 pi] = W9 at *
          go_wp2_with fail
          go_meet
          exact ⟨_, _, rfl, rfl, Lib.hid ne, by omega, by omega, Lib.hid (Below.trans HD0.out (FB.mono (Nat.le_of_eq hw10))), Lib.hid F1, Lib.hid F2⟩
      case rest =>
        obtain ⟨g1, g2, rfl, rfl, hne, h1, h2, HB, H1, H2⟩ := hcut
        go_upto_region 8 with fail
        go_cut [] from 36 (fun wx => Hid (Below w1.heap.size w1 wx) ∧ Hid (wx.heap[g1]? = some (obP (min px qx, py, pi))) ∧ Hid (wx.heap[g2]? = some (obP (max px qx, py, pi))))
        case first =>
          have P9 := (HB.out.block _ hpl).trans HP1.out
          have Q9 := (HB.out.block _ hql).trans HQ1.out
          have HPQ := Lib.hid (show wc.drew.heap[w.heap.size]? = some (obP (px, py, pi)) ∧ wc.drew.heap[w.heap.size + 1]? = some (obP (qx, qy, qi)) from ⟨P9, Q9⟩)
          have gC : ∀ p : HeldW (fun W : World => W.heap[w.heap.size]? = some (obP (px, py, pi)) ∧ W.heap[w.heap.size + 1]? = some (obP (qx, qy, qi))), p.W.cell? ⟨w.heap.size, 0, none⟩ = some (.int .i64 px) := fun p => (obP_cells p.h.1).1
          have gD : ∀ p : HeldW (fun W : World => W.heap[w.heap.size]? = some (obP (px, py, pi)) ∧ W.heap[w.heap.size + 1]? = some (obP (qx, qy, qi))), p.W.cell? ⟨w.heap.size + 1, 0, none⟩ = some (.int .i64 qx) := fun p => (obP_cells p.h.2).1
          refine wp_region_head (fun W => ∃ p : HeldW (fun W : World => W.heap[w.heap.size]? = some (obP (px, py, pi)) ∧ W.heap[w.heap.size + 1]? = some (obP (qx, qy, qi))), W = p.W) [12, 13] [(0, false), (1, true), (2, false), (3, true), (5, false), (6, true), (7, false), (8, true), (4, false), (9, false), (10, false)] (by kernel_rfl) (by kernel_rfl) (fun _ _ d _ _ h => by cases d <;> exact h) ⟨⟨_, HPQ.out⟩, rfl⟩ 3 rfl (by kernel_rfl) ?_
          simp only [pickB, List.filterMap_cons, List.filterMap_nil, List.getElem?_toArray, List.getElem?_cons_succ, List.getElem?_cons_zero, Option.map_some]
          repeat (refine wpHd_step (fun K hK => ?_); go_simp; first | (refine hK _ ?_; clear hK K) | (apply Exists.intro; refine ⟨fun _ => ?_, hK _ ?_⟩; rfl; clear hK K))
          refine wpHd_nil ?_
          clear gC gD
          have H1' : wc.drew.heap[g1]? = some (obP (px, py, pi)) := H1.out
          have H2' : wc.drew.heap[g2]? = some (obP (px, py, pi)) := H2.out
          have HB' : Below w1.heap.size w1 wc.drew := HB.out.drew
          generalize wc.drew = wd at *
          obtain ⟨y0, y1, y2⟩ := obP_cells H1'
          have f0 := frzP H1' 0
          have S1 := heap_setCell_same wd g1 0 _ _ (Value.int .i64 (min px qx)) H1'
          have S2 : (wd.setCell ⟨g1, 0, none⟩ (Value.int .i64 (min px qx))).heap[g2]? = _ := (heap_setNe (by show g1 ≠ g2; exact hne.out)).trans H2'
          have SP := (show (wd.setCell ⟨g1, 0, none⟩ (Value.int .i64 (min px qx))).heap[w.heap.size]? = _ from heap_setNe (by show g1 ≠ w.heap.size; omega)).trans HPQ.out.1
          have SQ := (show (wd.setCell ⟨g1, 0, none⟩ (Value.int .i64 (min px qx))).heap[w.heap.size + 1]? = _ from heap_setNe (by show g1 ≠ w.heap.size + 1; omega)).trans HPQ.out.2
          have SB := HB'.setCell (p := ⟨g1, 0, none⟩) (by show w1.heap.size ≤ g1; omega) (Value.int .i64 (min px qx))
          refine wpAnyT_ready [11] (by kernel_rfl) (by simp) ?_
          refine AllReadyT.cons rfl (fun K hK => ?_) AllReadyT.nil
          go_simp
          refine hK _ _ (fun _ _ => ⟨⟨_, SP, SQ⟩, rfl⟩) ?_
          clear hK K y0 y1 y2 f0
          refine wpAnyT_line [12, 13] _ _ _ (by kernel_rfl) ?_
          simp only [pick, List.filterMap_cons, List.filterMap_nil, List.getElem?_toArray, List.getElem?_cons_succ, List.getElem?_cons_zero]
          generalize wd.setCell ⟨g1, 0, none⟩ (Value.int .i64 (min px qx)) = we at *
          obtain ⟨y0, y1, y2⟩ := obP_cells S2
          have f0 := frzP S2 0
          have U2 := heap_setCell_same we g2 0 _ _ (Value.int .i64 (max px qx)) S2
          go_wp2_with fail
          go_meet
          exact ⟨Lib.hid (SB.setCell (by show w1.heap.size ≤ g2; omega) _), Lib.hid ((heap_setNe (by show g2 ≠ g1; exact Ne.symm hne.out)).trans S1), Lib.hid U2⟩
        case rest =>
          clear HB H1 H2
          obtain ⟨HB, H1, H2⟩ := hcut
          obtain ⟨lx, mx, hlx, hA, hB⟩ : ∃ l m : Int, (∀ n : Int, onN n l bx = true → onN n m bx = true) ∧ (bx = true → l = max px qx ∧ m = min px qx) ∧ (bx = false → l = min px qx ∧ m = max px qx) := by
            cases bx
            · exact ⟨_, _, fun n h => by simp only [onN, Bool.false_eq_true, if_false, decide_eq_true_eq] at *; omega, (fun h => by cases h), fun _ => ⟨rfl, rfl⟩⟩
            · exact ⟨_, _, fun n h => by simp only [onN, if_true, decide_eq_true_eq] at *; omega, fun _ => ⟨rfl, rfl⟩, fun h => by cases h⟩
          have HLx := Lib.hid hlx
          have HA := Lib.hid hA
          have HBB := Lib.hid hB
          clear hlx hA hB
          go_upto_if 50 with fail
          go_cut [] from 50 (fun wx => Hid (Below w1.heap.size w1 wx) ∧ Hid (wx.heap[g1]? = some (obP (lx, py, pi))) ∧ Hid (wx.heap[g2]? = some (obP (mx, py, pi))))
          case first =>
            obtain ⟨y0, y1, y2⟩ := obP_cells H1.out
            obtain ⟨z0, z1, z2⟩ := obP_cells H2.out
            have f0 := frzP H1.out 0
            have f1 := frzP H2.out 0
            cases bx
            rotate_left
            · have h9 := HA.out rfl
              have S1 := heap_setCell_same wc g1 0 _ _ (Value.int .i64 (max px qx)) H1.out
              have S2 : (wc.setCell ⟨g1, 0, none⟩ (Value.int .i64 (max px qx))).heap[g2]? = _ := (heap_setNe (by show g1 ≠ g2; exact hne.out)).trans H2.out
              have U2 := heap_setCell_same _ g2 0 _ _ (Value.int .i64 (min px qx)) S2
              have hne1 := hne.out
              have hne2 := Ne.symm hne.out
              have H9 := Lib.hid h9
              clear h9
              go_wp2
              go_meet
              obtain ⟨h8, h9⟩ := H9.out
              rw [h8, h9]
              exact ⟨Lib.hid ((HB.out.setCell (by show w1.heap.size ≤ g1; omega) _).setCell (by show w1.heap.size ≤ g2; omega) _), Lib.hid ((heap_setNe (by show g2 ≠ g1; exact Ne.symm hne.out)).trans S1), Lib.hid U2⟩
            · have H9 := Lib.hid (HBB.out rfl)
              go_wp2
              go_meet
              obtain ⟨h8, h9⟩ := H9.out
              rw [h8, h9]
              exact ⟨HB, H1, H2⟩
          case rest =>
            clear HB H1 H2 HA HBB
            obtain ⟨HB, H1, H2⟩ := hcut
            go_upto_region 11 with fail
            go_cut [] from 57 (fun wx => Hid (Below w1.heap.size w1 wx) ∧ Hid (wx.heap[g1]? = some (obP (lx, min py qy, pi))) ∧ Hid (wx.heap[g2]? = some (obP (mx, max py qy, pi))))
            case first =>
              have P9 := (HB.out.block _ hpl).trans HP1.out
              have Q9 := (HB.out.block _ hql).trans HQ1.out
              have HPQ := Lib.hid (show wc.drew.heap[w.heap.size]? = some (obP (px, py, pi)) ∧ wc.drew.heap[w.heap.size + 1]? = some (obP (qx, qy, qi)) from ⟨P9, Q9⟩)
              have gC : ∀ p : HeldW (fun W : World => W.heap[w.heap.size]? = some (obP (px, py, pi)) ∧ W.heap[w.heap.size + 1]? = some (obP (qx, qy, qi))), p.W.cell? ⟨w.heap.size, 1, none⟩ = some (.int .i64 py) := fun p => (obP_cells p.h.1).2.1
              have gD : ∀ p : HeldW (fun W : World => W.heap[w.heap.size]? = some (obP (px, py, pi)) ∧ W.heap[w.heap.size + 1]? = some (obP (qx, qy, qi))), p.W.cell? ⟨w.heap.size + 1, 1, none⟩ = some (.int .i64 qy) := fun p => (obP_cells p.h.2).2.1
              refine wp_region_head (fun W => ∃ p : HeldW (fun W : World => W.heap[w.heap.size]? = some (obP (px, py, pi)) ∧ W.heap[w.heap.size + 1]? = some (obP (qx, qy, qi))), W = p.W) [12, 13] [(0, false), (1, true), (2, false), (3, true), (5, false), (6, true), (7, false), (8, true), (4, false), (9, false), (10, false)] (by kernel_rfl) (by kernel_rfl) (fun _ _ d _ _ h => by cases d <;> exact h) ⟨⟨_, HPQ.out⟩, rfl⟩ 3 rfl (by kernel_rfl) ?_
              simp only [pickB, List.filterMap_cons, List.filterMap_nil, List.getElem?_toArray, List.getElem?_cons_succ, List.getElem?_cons_zero, Option.map_some]
              repeat (refine wpHd_step (fun K hK => ?_); go_simp; first | (refine hK _ ?_; clear hK K) | (apply Exists.intro; refine ⟨fun _ => ?_, hK _ ?_⟩; rfl; clear hK K))
              refine wpHd_nil ?_
              clear gC gD
              have H1' : wc.drew.heap[g1]? = some (obP (lx, py, pi)) := H1.out
              have H2' : wc.drew.heap[g2]? = some (obP (mx, py, pi)) := H2.out
              have HB' : Below w1.heap.size w1 wc.drew := HB.out.drew
              generalize wc.drew = wd at *
              obtain ⟨y0, y1, y2⟩ := obP_cells H1'
              have f0 := frzP H1' 1
              have S1 := heap_setCell_same wd g1 1 _ _ (Value.int .i64 (min py qy)) H1'
              have S2 : (wd.setCell ⟨g1, 1, none⟩ (Value.int .i64 (min py qy))).heap[g2]? = _ := (heap_setNe (by show g1 ≠ g2; exact hne.out)).trans H2'
              have SP := (show (wd.setCell ⟨g1, 1, none⟩ (Value.int .i64 (min py qy))).heap[w.heap.size]? = _ from heap_setNe (by show g1 ≠ w.heap.size; omega)).trans HPQ.out.1
              have SQ := (show (wd.setCell ⟨g1, 1, none⟩ (Value.int .i64 (min py qy))).heap[w.heap.size + 1]? = _ from heap_setNe (by show g1 ≠ w.heap.size + 1; omega)).trans HPQ.out.2
              have SB := HB'.setCell (p := ⟨g1, 1, none⟩) (by show w1.heap.size ≤ g1; omega) (Value.int .i64 (min py qy))
              refine wpAnyT_ready [11] (by kernel_rfl) (by simp) ?_
              refine AllReadyT.cons rfl (fun K hK => ?_) AllReadyT.nil
              go_simp
              refine hK _ _ (fun _ _ => ⟨⟨_, SP, SQ⟩, rfl⟩) ?_
              clear hK K y0 y1 y2 f0
              refine wpAnyT_line [12, 13] _ _ _ (by kernel_rfl) ?_
              simp only [pick, List.filterMap_cons, List.filterMap_nil, List.getElem?_toArray, List.getElem?_cons_succ, List.getElem?_cons_zero]
              generalize wd.setCell ⟨g1, 1, none⟩ (Value.int .i64 (min py qy)) = we at *
              obtain ⟨y0, y1, y2⟩ := obP_cells S2
              have f0 := frzP S2 1
              have U2 := heap_setCell_same we g2 1 _ _ (Value.int .i64 (max py qy)) S2
              go_wp2_with fail
              go_meet
              exact ⟨Lib.hid (SB.setCell (by show w1.heap.size ≤ g2; omega) _), Lib.hid ((heap_setNe (by show g2 ≠ g1; exact Ne.symm hne.out)).trans S1), Lib.hid U2⟩
            case rest =>
              clear HB H1 H2
              obtain ⟨HB, H1, H2⟩ := hcut
              obtain ⟨ly, my, hly, hA, hB⟩ : ∃ l m : Int, (∀ n : Int, onN n l b_y = true → onN n m b_y = true) ∧ (b_y = true → l = max py qy ∧ m = min py qy) ∧ (b_y = false → l = min py qy ∧ m = max py qy) := by
                cases b_y
                · exact ⟨_, _, fun n h => by simp only [onN, Bool.false_eq_true, if_false, decide_eq_true_eq] at *; omega, (fun h => by cases h), fun _ => ⟨rfl, rfl⟩⟩
                · exact ⟨_, _, fun n h => by simp only [onN, if_true, decide_eq_true_eq] at *; omega, fun _ => ⟨rfl, rfl⟩, fun h => by cases h⟩
              have HLy := Lib.hid hly
              have HA := Lib.hid hA
              have HBB := Lib.hid hB
              clear hly hA hB
              go_upto_if 70 with fail
              go_cut [] from 70 (fun wx => Hid (Below w1.heap.size w1 wx) ∧ Hid (wx.heap[g1]? = some (obP (lx, ly, pi))) ∧ Hid (wx.heap[g2]? = some (obP (mx, my, pi))))
              case first =>
                obtain ⟨y0, y1, y2⟩ := obP_cells H1.out
                obtain ⟨z0, z1, z2⟩ := obP_cells H2.out
                have f0 := frzP H1.out 1
                have f1 := frzP H2.out 1
                cases b_y
                rotate_left
                · have h9 := HA.out rfl
                  have S1 := heap_setCell_same wc g1 1 _ _ (Value.int .i64 (max py qy)) H1.out
                  have S2 : (wc.setCell ⟨g1, 1, none⟩ (Value.int .i64 (max py qy))).heap[g2]? = _ := (heap_setNe (by show g1 ≠ g2; exact hne.out)).trans H2.out
                  have U2 := heap_setCell_same _ g2 1 _ _ (Value.int .i64 (min py qy)) S2
                  have hne1 := hne.out
                  have hne2 := Ne.symm hne.out
                  have H9 := Lib.hid h9
                  clear h9
                  go_wp2
                  go_meet
                  obtain ⟨h8, h9⟩ := H9.out
                  rw [h8, h9]
                  exact ⟨Lib.hid ((HB.out.setCell (by show w1.heap.size ≤ g1; omega) _).setCell (by show w1.heap.size ≤ g2; omega) _), Lib.hid ((heap_setNe (by show g2 ≠ g1; exact Ne.symm hne.out)).trans S1), Lib.hid U2⟩
                · have H9 := Lib.hid (HBB.out rfl)
                  go_wp2
                  go_meet
                  obtain ⟨h8, h9⟩ := H9.out
                  rw [h8, h9]
                  exact ⟨HB, H1, H2⟩
              case rest =>
                clear HB H1 H2 HA HBB
                obtain ⟨HB, H1, H2⟩ := hcut
                have hnear := Lib.hid (show ∀ p ∈ l, crnF lx ly bx b_y p = true → crnF mx my bx b_y p = true from fun p _ h => by
                  simp only [crnF, Bool.and_eq_true] at h ⊢
                  exact ⟨HLx.out _ h.1, HLy.out _ h.2⟩)
                have SUB := Lib.hid (hasN_sub HU.out hnear.out)
                have T9 := Lib.hid (HT.out.below HB.out HT.out.hi_le)
                obtain ⟨y0, y1, y2⟩ := obP_cells H1.out
                have hg2l := (Array.getElem?_eq_some_iff.1 H2.out).1
                have hgl := hasN_few l (crnF mx my bx b_y)
                go_wp2_with fail
                refine (coReport T9.out HWL.out lx ly bx b_y M HMM.out).mono ?_
                rintro e w3 ⟨v3, c3, rfl, -, hown3, hb3⟩
                obtain ⟨a3, k3, rfl, -, -, hr3⟩ := Rd.of_owns hown3
                have C3 := (hb3.block _ hg2l).trans H2.out
                have T3 := Lib.hid (T9.out.below hb3 T9.out.hi_le)
                have R3 := Lib.hid hr3
                have B3 := Lib.hid ((HB1.out.trans (HB.out.mono HB1.out.size)).trans (hb3.mono (Nat.le_trans HB1.out.size HB.out.size)))
                obtain ⟨z0, z1, z2⟩ := obP_cells C3
                clear y0 y1 y2 hr3 hown3 hb3 C3 T9
                go_wp2_with fail
                refine (coReport T3.out HWL.out mx my bx b_y M HMM.out).mono ?_
                rintro e w4 ⟨v4, c4, rfl, -, hown4, hb4⟩
                obtain ⟨a4, k4, rfl, -, -, hr4⟩ := Rd.of_owns hown4
                have R3' := Lib.hid (R3.out.below hb4)
                have R4 := Lib.hid hr4
                have B4 := Lib.hid (B3.out.trans (hb4.mono B3.out.size))
                clear z0 z1 z2 T3 R3 B3 hr4 hown4 hb4 hnear
                generalize hasN l (crnF mx my bx b_y) = N at *
                generalize hasN l (crnF lx ly bx b_y) = G at *
                have hGl := SUB.out.length_le
                go_wp2
                go_loopw [17, 99] (fun kv iv wr => ∃ i k : Nat, iv = .int .i64 i ∧ i ≤ N.length ∧ kv = .int .i64 k ∧ k ≤ G.length ∧ Hid ((G.drop k).Sublist (N.drop i)) ∧ Below w4.heap.size w4 wr) (fun _ iv _ => N.length - (intOf iv).toNat)
                case atStart => exact ⟨0, 0, rfl, Nat.zero_le _, rfl, Nat.zero_le _, Lib.hid SUB.out, Below.refl _ _⟩
                case round =>
                  obtain ⟨i, k, rfl, hi, rfl, hk, HS, hb⟩ := hrel
                  by_cases hlt : i < N.length
                  · obtain ⟨b5, off5, ea5, hbl5, hcs5⟩ := (R4.out.below hb).get (by omega)
                    have x0 := hcs5 i hlt
                    have GS := Lib.hid (greedy_step HS.out hlt)
                    have EA := Lib.hid ea5
                    have hkl2 : (i : Int) < (N.length : Int) := by omega
                    clear hcs5 ea5
                    generalize N[i] = m at *
                    obtain rfl := EA.out
                    clear EA
                    by_cases hkG : k < G.length
                    · obtain ⟨b6, off6, ea6, hbl6, hcs6⟩ := (R3'.out.below hb).get (by omega)
                      have n0 := hcs6 k hkG
                      have EA := Lib.hid ea6
                      have hkk2 : (k : Int) < (G.length : Int) := by omega
                      have GY := Lib.hid (fun e => GS.out.1 hkG e)
                      have GN := Lib.hid (fun e => GS.out.2 (.inr ⟨hkG, e⟩))
                      clear hcs6 ea6 GS
                      generalize G[k] = gk at *
                      obtain rfl := EA.out
                      clear EA
                      by_cases he : gk = m
                      · have HG := Lib.hid (GY.out he)
                        have hd : (gk == m) = true := by simp [he]
                        clear he GY GN
                        go_wp2
                        exact ⟨⟨i + 1, k + 1, by go_num, by omega, by go_num, by omega, HG, hb⟩, by simp [intOf]; omega⟩
                      · have HG := Lib.hid (GN.out he)
                        have hd : (gk == m) = false := by simp [he]
                        clear he GY GN
                        go_wp2
                        exact ⟨⟨i + 1, k, by go_num, by omega, rfl, hk, HG, hb⟩, by simp [intOf]; omega⟩
                    · have HG := Lib.hid (GS.out.2 (.inl (by omega)))
                      have hkk2 : ¬ ((k : Int) < (G.length : Int)) := by omega
                      clear GS
                      go_wp2
                      exact ⟨⟨i + 1, k, by go_num, by omega, rfl, hk, HG, hb⟩, by simp [intOf]; omega⟩
                  · obtain rfl : i = N.length := by omega
                    obtain rfl := greedy_end HS.out hk
                    have BR := B4.out.trans (hb.mono B4.out.size)
                    go_wp2_with (go_at_call 32; refine (AW.out _).mono ?_; rintro e w9 ⟨rfl, hb9⟩)
                    go_ret
                    exact ⟨rfl, BR.trans (hb9.mono BR.size)⟩
    · have cb1 := Lib.hid (fun W (r : RdK ePt 3 W a l) => coBuild_bad a c l W r (by omega) hw hu)
      go_enter Tryz.func11, Tryz.ntmps11
      go_wp2_with fail
      have b0 : Below w.heap.size w ((w.alloc (.cells #[.int .i64 px, .int .i64 py, .int .u32 pi] 34)).alloc (.cells #[.int .i64 qx, .int .i64 qy, .int .u32 qi] 34)) := ((Below.refl _ _).alloc (Nat.le_refl _) _).alloc (by simp) _
      refine (cb1.out _ (HR.out.below b0)).mono ?_
      rintro e w2 ⟨rfl, hb2⟩
      have B2 := b0.trans (hb2.mono b0.size)
      clear b0 hb2
      go_wp2_with (go_at_call 32; refine (AW.out _).mono ?_; rintro e w3 ⟨rfl, hb3⟩)
      go_ret
      exact ⟨rfl, B2.trans (hb3.mono B2.size)⟩
  · have dl : decide (80 < (l.length : Int)) = true := by simp; omega
    go_enter Tryz.func11, Tryz.ntmps11
    go_wp2_with (go_at_call 32; refine (AW.out _).mono ?_; rintro e w3 ⟨rfl, hb3⟩)
    go_ret
    exact ⟨rfl, (((Below.refl _ _).alloc (Nat.le_refl _) _).alloc (by simp) _).trans (hb3.mono (by simp; omega))⟩
end Go.Proofs.YthplgcakhniidaaGreat
