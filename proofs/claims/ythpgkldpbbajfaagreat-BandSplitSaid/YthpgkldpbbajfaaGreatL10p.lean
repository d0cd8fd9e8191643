/- gridironlaw10.split: a box cut in two (printed by gen_l10p.py). -/
import Derived.Test.YthpgkldpbbajfaaGreatL10w
import Derived.Test.YthpgkldpbbajfaaGreatQ7
import Derived.Test.YthpgkldpbbajfaaGreatQ3
import Derived.Laws.Tables
import Derived.Laws.Rows
import Derived.Laws.CopyOwn
import Derived.Great.BuildSlice
import Derived.Deep.CutRange
namespace Go.Proofs.YthpgkldpbbajfaaGreat
open Go.RowKit Go.Maps
attribute [local irreducible] wpQuiet
attribute [local go_sem] Oper.still1
set_option linter.unusedSimpArgs false
set_option linter.unusedVariables false

theorem frzBx {W : World} {b : Nat} {p : Bx} (h : W.heap[b]? = some (objBx p)) (k : Nat) : W.frozen? ⟨b, k, none⟩ = false := by simp [World.frozen?, h, objBx]

/-- two results, each a struct in a cell of its own -/
theorem results_two {P : Program} {fn : Func} {p q : Tmp} {ty : TypeId} (h : fn.results = #[.cell p ty, .cell q ty]) (tmps : Array Value) (w : World) (g g' : Nat) (t t' : TypeId) (cs cs' : Array Value) (fr fr' : Nat × Nat) (d : TypeDesc)
    (hp : tmps.getD p undef = .pointer (some ⟨g, 0, none⟩)) (hq : tmps.getD q undef = .pointer (some ⟨g', 0, none⟩)) (hg : w.heap[g]? = some (.cells cs t fr)) (hg' : w.heap[g']? = some (.cells cs' t' fr'))
    (hu : P.underlying ty = some d) (hd : (match d with | .struct _ | .array _ _ => true | _ => false) = true) (hi : (P.info? ty).map (·.size) = some cs.size) (hi' : (P.info? ty).map (·.size) = some cs'.size) :
    (results fn tmps).run P w = .ok (.tuple #[.agg cs, .agg cs']) w := by
  have hp' : tmps[p]?.getD undef = .pointer (some ⟨g, 0, none⟩) := by simpa using hp
  have hq' : tmps[q]?.getD undef = .pointer (some ⟨g', 0, none⟩) := by simpa using hq
  simp [results, h, hp', hq', asAddr, run_loadVar_row w g t ty cs fr d hg hu hd hi, run_loadVar_row w g' t' ty cs' fr' d hg' hu hd hi']

set_option maxRecDepth 100000 in
set_option maxHeartbeats 4000000 in
theorem split10_wide (x1 x2 y1 y2 bi x : Int) (hx : -9223372036854775808 ≤ x ∧ x < 9223372036854775807) (w : World) :
    Calls Tryz.prog 35 #[.agg #[.int .i64 x1, .int .i64 x2, .int .i64 y1, .int .i64 y2, .int .u32 bi], .int .i64 x, .bool true] w fun e w' => e = .returned (.tuple #[.agg #[.int .i64 x1, .int .i64 x, .int .i64 y1, .int .i64 y2, .int .u32 bi], .agg #[.int .i64 (x + 1), .int .i64 x2, .int .i64 y1, .int .i64 y2, .int .u32 bi]]) ∧ Below w.heap.size w w' := by
  obtain ⟨w1, ew1⟩ : ∃ w1, w1 = ((w.alloc (.cells #[.int .i64 x1, .int .i64 x2, .int .i64 y1, .int .i64 y2, .int .u32 bi] 51)).alloc (.cells #[.int .i64 0, .int .i64 0, .int .i64 0, .int .i64 0, .int .u32 0] 51)).alloc (.cells #[.int .i64 0, .int .i64 0, .int .i64 0, .int .i64 0, .int .u32 0] 51) := ⟨_, rfl⟩
  have hb1 : Below w.heap.size w w1 := by rw [ew1]; exact (((Below.refl _ _).alloc (Nat.le_refl _) _).alloc (by simp) _).alloc (by simp; omega) _
  have hb9 : Below (w.heap.size + 2) ((w.alloc (.cells #[.int .i64 x1, .int .i64 x2, .int .i64 y1, .int .i64 y2, .int .u32 bi] 51)).alloc (.cells #[.int .i64 0, .int .i64 0, .int .i64 0, .int .i64 0, .int .u32 0] 51)) w1 := by rw [ew1]; exact (Below.refl _ _).alloc (by simp) _
  have X3 : w1.heap[w.heap.size]? = some (objBx (x1, x2, y1, y2, bi)) := (hb9.block _ (by omega)).trans (lit1 _ _ _)
  have X6 : w1.heap[w.heap.size + 1]? = some ((.cells #[.int .i64 0, .int .i64 0, .int .i64 0, .int .i64 0, .int .u32 0] 51 (0, 0)) : Obj) := (hb9.block _ (by omega)).trans (lit2 _ _ _)
  have X7 : w1.heap[w.heap.size + 2]? = some ((.cells #[.int .i64 0, .int .i64 0, .int .i64 0, .int .i64 0, .int .u32 0] 51 (0, 0)) : Obj) := by
    rw [ew1]
    have h := lit0 ((w.alloc (.cells #[.int .i64 x1, .int .i64 x2, .int .i64 y1, .int .i64 y2, .int .u32 bi] 51)).alloc (.cells #[.int .i64 0, .int .i64 0, .int .i64 0, .int .i64 0, .int .u32 0] 51)) (.cells #[.int .i64 0, .int .i64 0, .int .i64 0, .int .i64 0, .int .u32 0] 51)
    simpa using h
  have hl3 := (Array.getElem?_eq_some_iff.1 X3).1
  have hl6 := (Array.getElem?_eq_some_iff.1 X6).1
  have hl7 := (Array.getElem?_eq_some_iff.1 X7).1
  have HX3 := Lib.hid X3
  have HX6 := Lib.hid X6
  have HX7 := Lib.hid X7
  have HB1 := Lib.hid hb1
  clear X3 X6 X7 hb1 hb9
  go_enter Tryz.func35, Tryz.ntmps35
  go_upto_region 1 with fail
  rw [← ew1]
  clear ew1
  go_cut [8, 9] from 10 (fun v1 v2 wx => ∃ g1 g2, v1 = .pointer (some ⟨g1, 0, none⟩) ∧ v2 = .pointer (some ⟨g2, 0, none⟩) ∧ Hid (g1 ≠ g2) ∧ w1.heap.size ≤ g1 ∧ w1.heap.size ≤ g2 ∧ Hid (Below w1.heap.size w1 wx) ∧ Hid (wx.heap[g1]? = some (objBx (x1, x2, y1, y2, bi))) ∧ Hid (wx.heap[g2]? = some (objBx (x1, x2, y1, y2, bi))))
  case first =>
        have HX0 := Lib.hid (show w1.drew.heap[w.heap.size]? = some (objBx (x1, x2, y1, y2, bi)) from HX3.out)
        have gC0 : ∀ p : HeldW (fun W : World => W.heap[w.heap.size]? = some (objBx (x1, x2, y1, y2, bi))), p.W.cell? ⟨w.heap.size, 0, none⟩ = some (.int .i64 x1) := fun p => (objBx_cells p.h).1
        have gC1 : ∀ p : HeldW (fun W : World => W.heap[w.heap.size]? = some (objBx (x1, x2, y1, y2, bi))), p.W.cell? ⟨w.heap.size, 1, none⟩ = some (.int .i64 x2) := fun p => (objBx_cells p.h).2.1
        have gC2 : ∀ p : HeldW (fun W : World => W.heap[w.heap.size]? = some (objBx (x1, x2, y1, y2, bi))), p.W.cell? ⟨w.heap.size, 2, none⟩ = some (.int .i64 y1) := fun p => (objBx_cells p.h).2.2.1
        have gC3 : ∀ p : HeldW (fun W : World => W.heap[w.heap.size]? = some (objBx (x1, x2, y1, y2, bi))), p.W.cell? ⟨w.heap.size, 3, none⟩ = some (.int .i64 y2) := fun p => (objBx_cells p.h).2.2.2.1
        have gC4 : ∀ p : HeldW (fun W : World => W.heap[w.heap.size]? = some (objBx (x1, x2, y1, y2, bi))), p.W.cell? ⟨w.heap.size, 4, none⟩ = some (.int .u32 bi) := fun p => (objBx_cells p.h).2.2.2.2
        refine wp_region_head (fun W => ∃ p : HeldW (fun W : World => W.heap[w.heap.size]? = some (objBx (x1, x2, y1, y2, bi))), W = p.W) [5] [(0, true), (1, true)] (by kernel_rfl) (by kernel_rfl) (fun _ _ d _ _ h => by cases d <;> exact h) ⟨⟨_, HX0.out⟩, rfl⟩ 4 rfl (by kernel_rfl) ?_
        simp only [pickB, List.filterMap_cons, List.filterMap_nil, List.getElem?_toArray, List.getElem?_cons_succ, List.getElem?_cons_zero, Option.map_some]
        repeat (refine wpHd_step (fun K hK => ?_); go_simp; first | (refine hK _ ?_; clear hK K) | (apply Exists.intro; refine ⟨fun _ => ?_, hK _ ?_⟩; rfl; clear hK K))
        refine wpHd_nil ?_
        clear gC0 gC1 gC2 gC3 gC4
        have hw0 : w.heap.size < w1.drew.heap.size := hl3
        have hw10 : w1.heap.size = w1.drew.heap.size := rfl
        have HD0 := Lib.hid (show Below w1.heap.size w1 w1.drew from (Below.refl _ _).drew)
        generalize w1.drew = w0 at *
        refine wpAnyT_ready [2, 3] (by kernel_rfl) (by simp) ?_
        refine AllReadyT.cons rfl (fun K hK => ?_) (AllReadyT.cons rfl (fun K hK => ?_) AllReadyT.nil)
        · go_simp
          obtain ⟨v1, e1'⟩ : ∃ W, W = w0.alloc (.cells #[.int .i64 0, .int .i64 0, .int .i64 0, .int .i64 0, .int .u32 0] 51) := ⟨_, rfl⟩
          have hb1 : Below w0.heap.size w0 v1 := by rw [e1']; exact (Below.refl _ _).alloc (Nat.le_refl _) _
          have XF1 : v1.heap[w0.heap.size]? = some ((.cells #[.int .i64 0, .int .i64 0, .int .i64 0, .int .i64 0, .int .u32 0] 51 (0, 0)) : Obj) := by rw [e1']; exact lit0 _ _
          have hs1 : w0.heap.size < v1.heap.size := (Array.getElem?_eq_some_iff.1 XF1).1
          rw [← e1']
          clear e1'
          refine hK _ _ (fun _ _ => ⟨⟨_, (hb1.block _ hw0).trans HX0.out⟩, rfl⟩) ?_
          clear hK K
          refine wpAnyT_ready [3] (by kernel_rfl) (by simp) ?_
          refine AllReadyT.cons rfl (fun K hK => ?_) AllReadyT.nil
          go_simp
          obtain ⟨v2, e2'⟩ : ∃ W, W = v1.alloc (.cells #[.int .i64 0, .int .i64 0, .int .i64 0, .int .i64 0, .int .u32 0] 51) := ⟨_, rfl⟩
          have hb2 : Below v1.heap.size v1 v2 := by rw [e2']; exact (Below.refl _ _).alloc (Nat.le_refl _) _
          have XS2 : v2.heap[v1.heap.size]? = some ((.cells #[.int .i64 0, .int .i64 0, .int .i64 0, .int .i64 0, .int .u32 0] 51 (0, 0)) : Obj) := by rw [e2']; exact lit0 _ _
          have XF2 := (hb2.block _ hs1).trans XF1
          have hs2 : v1.heap.size < v2.heap.size := (Array.getElem?_eq_some_iff.1 XS2).1
          have BB : Below w0.heap.size w0 v2 := hb1.trans (hb2.mono (Nat.le_of_lt hs1))
          have XP2 := (BB.block _ hw0).trans HX0.out
          rw [← e2']
          clear e2'
          refine hK _ _ (fun _ _ => ⟨⟨_, XP2⟩, rfl⟩) ?_
          clear hK K
          have ne : w0.heap.size ≠ v1.heap.size := by omega
          refine wpAnyT_ready [4] (by kernel_rfl) (by simp) ?_
          refine AllReadyT.cons rfl (fun K hK => ?_) AllReadyT.nil
          rw [if_pos (by simp [Region.wanted])]
          refine wp_store_row 51 (.tmp 8) (.tmp 10) rfl (w0.heap.size) #[.int .i64 x1, .int .i64 x2, .int .i64 y1, .int .i64 y2, .int .u32 bi] rfl rfl _ _ XF2 (by kernel_rfl) rfl (by simp [Value.oneCell']) ?_
          refine hK _ _ (fun _ _ => ⟨⟨_, (setRow_other _ _ _ _ (by omega)).trans XP2⟩, rfl⟩) ?_
          clear hK K
          refine wpAnyT_line [5] _ _ _ (by kernel_rfl) ?_
          simp only [pick, List.filterMap_cons, List.filterMap_nil, List.getElem?_toArray, List.getElem?_cons_succ, List.getElem?_cons_zero]
          refine wpList_store_rowTo rfl 51 (.tmp 9) (.tmp 11) rfl rfl (v1.heap.size) #[.int .i64 x1, .int .i64 x2, .int .i64 y1, .int .i64 y2, .int .u32 bi] rfl rfl _ _ ((setRow_other _ _ _ _ (Ne.symm ne)).trans XS2) (by kernel_rfl) rfl (by simp [Value.oneCell']) ?_
          have F1 := (setRow_other (v2.setRow (w0.heap.size) #[.int .i64 x1, .int .i64 x2, .int .i64 y1, .int .i64 y2, .int .u32 bi]) (v1.heap.size) (w0.heap.size) #[.int .i64 x1, .int .i64 x2, .int .i64 y1, .int .i64 y2, .int .u32 bi] ne).trans (setRow_heap _ _ _ #[.int .i64 x1, .int .i64 x2, .int .i64 y1, .int .i64 y2, .int .u32 bi] _ _ XF2)
          have F2 := setRow_heap (v2.setRow (w0.heap.size) #[.int .i64 x1, .int .i64 x2, .int .i64 y1, .int .i64 y2, .int .u32 bi]) (v1.heap.size) _ #[.int .i64 x1, .int .i64 x2, .int .i64 y1, .int .i64 y2, .int .u32 bi] _ _ ((setRow_other _ _ _ _ (Ne.symm ne)).trans XS2)
          have FB := below_setRow (below_setRow BB (show w0.heap.size ≤ w0.heap.size by omega) #[.int .i64 x1, .int .i64 x2, .int .i64 y1, .int .i64 y2, .int .u32 bi]) (show w0.heap.size ≤ v1.heap.size by omega) #[.int .i64 x1, .int .i64 x2, .int .i64 y1, .int .i64 y2, .int .u32 bi]
          generalize (v2.setRow (w0.heap.size) #[.int .i64 x1, .int .i64 x2, .int .i64 y1, .int .i64 y2, .int .u32 bi]).setRow (v1.heap.size) #[.int .i64 x1, .int .i64 x2, .int .i64 y1, .int .i64 y2, .int .u32 bi] = W9 at *
          go_wp2_with fail
          go_meet
          exact ⟨_, _, rfl, rfl, Lib.hid ne, by omega, by omega, Lib.hid (Below.trans HD0.out (FB.mono (Nat.le_of_eq hw10))), Lib.hid F1, Lib.hid F2⟩
        · go_simp
          obtain ⟨v1, e1'⟩ : ∃ W, W = w0.alloc (.cells #[.int .i64 0, .int .i64 0, .int .i64 0, .int .i64 0, .int .u32 0] 51) := ⟨_, rfl⟩
          have hb1 : Below w0.heap.size w0 v1 := by rw [e1']; exact (Below.refl _ _).alloc (Nat.le_refl _) _
          have XF1 : v1.heap[w0.heap.size]? = some ((.cells #[.int .i64 0, .int .i64 0, .int .i64 0, .int .i64 0, .int .u32 0] 51 (0, 0)) : Obj) := by rw [e1']; exact lit0 _ _
          have hs1 : w0.heap.size < v1.heap.size := (Array.getElem?_eq_some_iff.1 XF1).1
          rw [← e1']
          clear e1'
          refine hK _ _ (fun _ _ => ⟨⟨_, (hb1.block _ hw0).trans HX0.out⟩, rfl⟩) ?_
          clear hK K
          refine wpAnyT_ready [2] (by kernel_rfl) (by simp) ?_
          refine AllReadyT.cons rfl (fun K hK => ?_) AllReadyT.nil
          go_simp
          obtain ⟨v2, e2'⟩ : ∃ W, W = v1.alloc (.cells #[.int .i64 0, .int .i64 0, .int .i64 0, .int .i64 0, .int .u32 0] 51) := ⟨_, rfl⟩
          have hb2 : Below v1.heap.size v1 v2 := by rw [e2']; exact (Below.refl _ _).alloc (Nat.le_refl _) _
          have XS2 : v2.heap[v1.heap.size]? = some ((.cells #[.int .i64 0, .int .i64 0, .int .i64 0, .int .i64 0, .int .u32 0] 51 (0, 0)) : Obj) := by rw [e2']; exact lit0 _ _
          have XF2 := (hb2.block _ hs1).trans XF1
          have hs2 : v1.heap.size < v2.heap.size := (Array.getElem?_eq_some_iff.1 XS2).1
          have BB : Below w0.heap.size w0 v2 := hb1.trans (hb2.mono (Nat.le_of_lt hs1))
          have XP2 := (BB.block _ hw0).trans HX0.out
          rw [← e2']
          clear e2'
          refine hK _ _ (fun _ _ => ⟨⟨_, XP2⟩, rfl⟩) ?_
          clear hK K
          have ne : v1.heap.size ≠ w0.heap.size := by omega
          refine wpAnyT_ready [4] (by kernel_rfl) (by simp) ?_
          refine AllReadyT.cons rfl (fun K hK => ?_) AllReadyT.nil
          rw [if_pos (by simp [Region.wanted])]
          refine wp_store_row 51 (.tmp 8) (.tmp 10) rfl (v1.heap.size) #[.int .i64 x1, .int .i64 x2, .int .i64 y1, .int .i64 y2, .int .u32 bi] rfl rfl _ _ XS2 (by kernel_rfl) rfl (by simp [Value.oneCell']) ?_
          refine hK _ _ (fun _ _ => ⟨⟨_, (setRow_other _ _ _ _ (by omega)).trans XP2⟩, rfl⟩) ?_
          clear hK K
          refine wpAnyT_line [5] _ _ _ (by kernel_rfl) ?_
          simp only [pick, List.filterMap_cons, List.filterMap_nil, List.getElem?_toArray, List.getElem?_cons_succ, List.getElem?_cons_zero]
          refine wpList_store_rowTo rfl 51 (.tmp 9) (.tmp 11) rfl rfl (w0.heap.size) #[.int .i64 x1, .int .i64 x2, .int .i64 y1, .int .i64 y2, .int .u32 bi] rfl rfl _ _ ((setRow_other _ _ _ _ (Ne.symm ne)).trans XF2) (by kernel_rfl) rfl (by simp [Value.oneCell']) ?_
          have F1 := (setRow_other (v2.setRow (v1.heap.size) #[.int .i64 x1, .int .i64 x2, .int .i64 y1, .int .i64 y2, .int .u32 bi]) (w0.heap.size) (v1.heap.size) #[.int .i64 x1, .int .i64 x2, .int .i64 y1, .int .i64 y2, .int .u32 bi] ne).trans (setRow_heap _ _ _ #[.int .i64 x1, .int .i64 x2, .int .i64 y1, .int .i64 y2, .int .u32 bi] _ _ XS2)
          have F2 := setRow_heap (v2.setRow (v1.heap.size) #[.int .i64 x1, .int .i64 x2, .int .i64 y1, .int .i64 y2, .int .u32 bi]) (w0.heap.size) _ #[.int .i64 x1, .int .i64 x2, .int .i64 y1, .int .i64 y2, .int .u32 bi] _ _ ((setRow_other _ _ _ _ (Ne.symm ne)).trans XF2)
          have FB := below_setRow (below_setRow BB (show w0.heap.size ≤ v1.heap.size by omega) #[.int .i64 x1, .int .i64 x2, .int .i64 y1, .int .i64 y2, .int .u32 bi]) (show w0.heap.size ≤ w0.heap.size by omega) #[.int .i64 x1, .int .i64 x2, .int .i64 y1, .int .i64 y2, .int .u32 bi]
          generalize (v2.setRow (v1.heap.size) #[.int .i64 x1, .int .i64 x2, .int .i64 y1, .int .i64 y2, .int .u32 bi]).setRow (w0.heap.size) #[.int .i64 x1, .int .i64 x2, .int .i64 y1, .int .i64 y2, .int .u32 bi] = W9 at *
          go_wp2_with fail
          go_meet
          exact ⟨_, _, rfl, rfl, Lib.hid ne, by omega, by omega, Lib.hid (Below.trans HD0.out (FB.mono (Nat.le_of_eq hw10))), Lib.hid F1, Lib.hid F2⟩
  case rest =>
        obtain ⟨g1, g2, rfl, rfl, hne, hg1, hg2, HB, H1, H2⟩ := hcut
        obtain ⟨y0, y1', y2', y3, y4⟩ := objBx_cells H1.out
        obtain ⟨z0, z1, z2, z3, z4⟩ := objBx_cells H2.out
        have f1 := frzBx H1.out 1
        have S1 := heap_setCell_same wc g1 1 _ _ (Value.int .i64 x) H1.out
        have S2 : (wc.setCell ⟨g1, 1, none⟩ (Value.int .i64 x)).heap[g2]? = _ := (heap_setNe (by show g1 ≠ g2; exact hne.out)).trans H2.out
        have f2 := frzBx S2 0
        obtain ⟨z0, z1, z2, z3, z4⟩ := objBx_cells S2
        have U2 := heap_setCell_same _ g2 0 _ _ (Value.int .i64 (x + 1)) S2
        have hne1 := hne.out
        have hne2 := Ne.symm hne.out
        have U1 : ((wc.setCell ⟨g1, 1, none⟩ (Value.int .i64 x)).setCell ⟨g2, 0, none⟩ (Value.int .i64 (x + 1))).heap[g1]? = some (objBx (x1, x, y1, y2, bi)) := (heap_setNe (by show g2 ≠ g1; exact hne2)).trans S1
        have U2' : ((wc.setCell ⟨g1, 1, none⟩ (Value.int .i64 x)).setCell ⟨g2, 0, none⟩ (Value.int .i64 (x + 1))).heap[g2]? = some (objBx (x + 1, x2, y1, y2, bi)) := U2
        have BU : Below w1.heap.size w1 ((wc.setCell ⟨g1, 1, none⟩ (Value.int .i64 x)).setCell ⟨g2, 0, none⟩ (Value.int .i64 (x + 1))) := (HB.out.setCell (by show w1.heap.size ≤ g1; omega) _).setCell (by show w1.heap.size ≤ g2; omega) _
        have HU1 := Lib.hid U1
        have HU2 := Lib.hid U2'
        have HBU := Lib.hid BU
        clear S1 U1 U2 U2' BU H1 H2
        go_upto_region 4 with fail
        clear y0 y1' y2' y3 y4 z0 z1 z2 z3 z4 f1 f2 S2
        generalize (wc.setCell ⟨g1, 1, none⟩ (Value.int .i64 x)).setCell ⟨g2, 0, none⟩ (Value.int .i64 (x + 1)) = wd at *
        have HX0 := Lib.hid (show wd.drew.heap[g1]? = some (objBx (x1, x, y1, y2, bi)) ∧ wd.drew.heap[g2]? = some (objBx (x + 1, x2, y1, y2, bi)) from ⟨HU1.out, HU2.out⟩)
        have gC : ∀ p : HeldW (fun W : World => W.heap[g1]? = some (objBx (x1, x, y1, y2, bi)) ∧ W.heap[g2]? = some (objBx (x + 1, x2, y1, y2, bi))), p.W.cell? ⟨g1, 0, none⟩ = some (.int .i64 _) ∧ p.W.cell? ⟨g1, 1, none⟩ = some (.int .i64 _) ∧ p.W.cell? ⟨g1, 2, none⟩ = some (.int .i64 _) ∧ p.W.cell? ⟨g1, 3, none⟩ = some (.int .i64 _) ∧ p.W.cell? ⟨g1, 4, none⟩ = some (.int .u32 _) := fun p => objBx_cells p.h.1
        have gD : ∀ p : HeldW (fun W : World => W.heap[g1]? = some (objBx (x1, x, y1, y2, bi)) ∧ W.heap[g2]? = some (objBx (x + 1, x2, y1, y2, bi))), p.W.cell? ⟨g2, 0, none⟩ = some (.int .i64 _) ∧ p.W.cell? ⟨g2, 1, none⟩ = some (.int .i64 _) ∧ p.W.cell? ⟨g2, 2, none⟩ = some (.int .i64 _) ∧ p.W.cell? ⟨g2, 3, none⟩ = some (.int .i64 _) ∧ p.W.cell? ⟨g2, 4, none⟩ = some (.int .u32 _) := fun p => objBx_cells p.h.2
        have gC0 := fun p => (gC p).1
        have gC1 := fun p => (gC p).2.1
        have gC2 := fun p => (gC p).2.2.1
        have gC3 := fun p => (gC p).2.2.2.1
        have gC4 := fun p => (gC p).2.2.2.2
        have gD0 := fun p => (gD p).1
        have gD1 := fun p => (gD p).2.1
        have gD2 := fun p => (gD p).2.2.1
        have gD3 := fun p => (gD p).2.2.2.1
        have gD4 := fun p => (gD p).2.2.2.2
        clear gC gD
        simp only at gC0 gC1 gC2 gC3 gC4 gD0 gD1 gD2 gD3 gD4
        refine wp_region_head (fun W => ∃ p : HeldW (fun W : World => W.heap[g1]? = some (objBx (x1, x, y1, y2, bi)) ∧ W.heap[g2]? = some (objBx (x + 1, x2, y1, y2, bi))), W = p.W) [3] [(0, true), (1, true)] (by kernel_rfl) (by kernel_rfl) (fun _ _ d _ _ h => by cases d <;> exact h) ⟨⟨_, HX0.out⟩, rfl⟩ 2 rfl (by kernel_rfl) ?_
        simp only [pickB, List.filterMap_cons, List.filterMap_nil, List.getElem?_toArray, List.getElem?_cons_succ, List.getElem?_cons_zero, Option.map_some]
        repeat (refine wpHd_step (fun K hK => ?_); go_simp; first | (refine hK _ ?_; clear hK K) | (apply Exists.intro; refine ⟨fun _ => ?_, hK _ ?_⟩; rfl; clear hK K))
        refine wpHd_nil ?_
        clear gC0 gC1 gC2 gC3 gC4 gD0 gD1 gD2 gD3 gD4
        have hX6 : wd.drew.heap[w.heap.size + 1]? = some ((.cells #[.int .i64 0, .int .i64 0, .int .i64 0, .int .i64 0, .int .u32 0] 51 (0, 0)) : Obj) := (HBU.out.block _ hl6).trans HX6.out
        have hX7 : wd.drew.heap[w.heap.size + 2]? = some ((.cells #[.int .i64 0, .int .i64 0, .int .i64 0, .int .i64 0, .int .u32 0] 51 (0, 0)) : Obj) := (HBU.out.block _ hl7).trans HX7.out
        have hBd : Below w.heap.size w wd.drew := HB1.out.trans ((HBU.out.drew).mono HB1.out.size)
        have hXC := HX0.out
        generalize wd.drew = we at *
        refine wpAnyT_ready [2] (by kernel_rfl) (by simp) ?_
        refine AllReadyT.cons rfl (fun K hK => ?_) AllReadyT.nil
        rw [if_pos (by simp [Region.wanted])]
        refine wp_store_row 51 (.tmp 6) (.tmp 18) rfl (w.heap.size + 1) #[.int .i64 x1, .int .i64 x, .int .i64 y1, .int .i64 y2, .int .u32 bi] rfl rfl _ _ hX6 (by kernel_rfl) rfl (by simp [Value.oneCell']) ?_
        refine hK _ _ (fun _ _ => ⟨⟨_, (setRow_other _ _ _ _ (by omega)).trans hXC.1, (setRow_other _ _ _ _ (by omega)).trans hXC.2⟩, rfl⟩) ?_
        clear hK K
        refine wpAnyT_line [3] _ _ _ (by kernel_rfl) ?_
        simp only [pick, List.filterMap_cons, List.filterMap_nil, List.getElem?_toArray, List.getElem?_cons_succ, List.getElem?_cons_zero]
        refine wpList_store_rowTo rfl 51 (.tmp 7) (.tmp 19) rfl rfl (w.heap.size + 2) #[.int .i64 (x + 1), .int .i64 x2, .int .i64 y1, .int .i64 y2, .int .u32 bi] rfl rfl _ _ ((setRow_other _ _ _ _ (by omega)).trans hX7) (by kernel_rfl) rfl (by simp [Value.oneCell']) ?_
        have F1 := (setRow_other (we.setRow (w.heap.size + 1) #[.int .i64 x1, .int .i64 x, .int .i64 y1, .int .i64 y2, .int .u32 bi]) (w.heap.size + 2) (w.heap.size + 1) #[.int .i64 (x + 1), .int .i64 x2, .int .i64 y1, .int .i64 y2, .int .u32 bi] (by omega)).trans (setRow_heap _ _ _ #[.int .i64 x1, .int .i64 x, .int .i64 y1, .int .i64 y2, .int .u32 bi] _ _ hX6)
        have F2 := setRow_heap (we.setRow (w.heap.size + 1) #[.int .i64 x1, .int .i64 x, .int .i64 y1, .int .i64 y2, .int .u32 bi]) (w.heap.size + 2) _ #[.int .i64 (x + 1), .int .i64 x2, .int .i64 y1, .int .i64 y2, .int .u32 bi] _ _ ((setRow_other _ _ _ _ (by omega)).trans hX7)
        have FB := below_setRow (below_setRow hBd (show w.heap.size ≤ w.heap.size + 1 by omega) #[.int .i64 x1, .int .i64 x, .int .i64 y1, .int .i64 y2, .int .u32 bi]) (show w.heap.size ≤ w.heap.size + 2 by omega) #[.int .i64 (x + 1), .int .i64 x2, .int .i64 y1, .int .i64 y2, .int .u32 bi]
        generalize (we.setRow (w.heap.size + 1) #[.int .i64 x1, .int .i64 x, .int .i64 y1, .int .i64 y2, .int .u32 bi]).setRow (w.heap.size + 2) #[.int .i64 (x + 1), .int .i64 x2, .int .i64 y1, .int .i64 y2, .int .u32 bi] = W9 at *
        go_wp2_with fail
        (try simp only [Exit.inBlock, Exit.then])
        refine bodyPost_ret (results_two rfl _ _ (w.heap.size + 1) (w.heap.size + 2) _ _ _ _ _ _ _ rfl rfl F1 F2 Tryz.underlying51 rfl (by kernel_rfl) (by kernel_rfl)) rfl ?_
        exact ⟨rfl, FB⟩

set_option maxRecDepth 100000 in
set_option maxHeartbeats 4000000 in
theorem split10_high (x1 x2 y1 y2 bi x : Int) (hx : -9223372036854775808 ≤ x ∧ x < 9223372036854775807) (w : World) :
    Calls Tryz.prog 35 #[.agg #[.int .i64 x1, .int .i64 x2, .int .i64 y1, .int .i64 y2, .int .u32 bi], .int .i64 x, .bool false] w fun e w' => e = .returned (.tuple #[.agg #[.int .i64 x1, .int .i64 x2, .int .i64 y1, .int .i64 x, .int .u32 bi], .agg #[.int .i64 x1, .int .i64 x2, .int .i64 (x + 1), .int .i64 y2, .int .u32 bi]]) ∧ Below w.heap.size w w' := by
  obtain ⟨w1, ew1⟩ : ∃ w1, w1 = ((w.alloc (.cells #[.int .i64 x1, .int .i64 x2, .int .i64 y1, .int .i64 y2, .int .u32 bi] 51)).alloc (.cells #[.int .i64 0, .int .i64 0, .int .i64 0, .int .i64 0, .int .u32 0] 51)).alloc (.cells #[.int .i64 0, .int .i64 0, .int .i64 0, .int .i64 0, .int .u32 0] 51) := ⟨_, rfl⟩
  have hb1 : Below w.heap.size w w1 := by rw [ew1]; exact (((Below.refl _ _).alloc (Nat.le_refl _) _).alloc (by simp) _).alloc (by simp; omega) _
  have hb9 : Below (w.heap.size + 2) ((w.alloc (.cells #[.int .i64 x1, .int .i64 x2, .int .i64 y1, .int .i64 y2, .int .u32 bi] 51)).alloc (.cells #[.int .i64 0, .int .i64 0, .int .i64 0, .int .i64 0, .int .u32 0] 51)) w1 := by rw [ew1]; exact (Below.refl _ _).alloc (by simp) _
  have X3 : w1.heap[w.heap.size]? = some (objBx (x1, x2, y1, y2, bi)) := (hb9.block _ (by omega)).trans (lit1 _ _ _)
  have X6 : w1.heap[w.heap.size + 1]? = some ((.cells #[.int .i64 0, .int .i64 0, .int .i64 0, .int .i64 0, .int .u32 0] 51 (0, 0)) : Obj) := (hb9.block _ (by omega)).trans (lit2 _ _ _)
  have X7 : w1.heap[w.heap.size + 2]? = some ((.cells #[.int .i64 0, .int .i64 0, .int .i64 0, .int .i64 0, .int .u32 0] 51 (0, 0)) : Obj) := by
    rw [ew1]
    have h := lit0 ((w.alloc (.cells #[.int .i64 x1, .int .i64 x2, .int .i64 y1, .int .i64 y2, .int .u32 bi] 51)).alloc (.cells #[.int .i64 0, .int .i64 0, .int .i64 0, .int .i64 0, .int .u32 0] 51)) (.cells #[.int .i64 0, .int .i64 0, .int .i64 0, .int .i64 0, .int .u32 0] 51)
    simpa using h
  have hl3 := (Array.getElem?_eq_some_iff.1 X3).1
  have hl6 := (Array.getElem?_eq_some_iff.1 X6).1
  have hl7 := (Array.getElem?_eq_some_iff.1 X7).1
  have HX3 := Lib.hid X3
  have HX6 := Lib.hid X6
  have HX7 := Lib.hid X7
  have HB1 := Lib.hid hb1
  clear X3 X6 X7 hb1 hb9
  go_enter Tryz.func35, Tryz.ntmps35
  go_upto_region 1 with fail
  rw [← ew1]
  clear ew1
  go_cut [8, 9] from 10 (fun v1 v2 wx => ∃ g1 g2, v1 = .pointer (some ⟨g1, 0, none⟩) ∧ v2 = .pointer (some ⟨g2, 0, none⟩) ∧ Hid (g1 ≠ g2) ∧ w1.heap.size ≤ g1 ∧ w1.heap.size ≤ g2 ∧ Hid (Below w1.heap.size w1 wx) ∧ Hid (wx.heap[g1]? = some (objBx (x1, x2, y1, y2, bi))) ∧ Hid (wx.heap[g2]? = some (objBx (x1, x2, y1, y2, bi))))
  case first =>
        have HX0 := Lib.hid (show w1.drew.heap[w.heap.size]? = some (objBx (x1, x2, y1, y2, bi)) from HX3.out)
        have gC0 : ∀ p : HeldW (fun W : World => W.heap[w.heap.size]? = some (objBx (x1, x2, y1, y2, bi))), p.W.cell? ⟨w.heap.size, 0, none⟩ = some (.int .i64 x1) := fun p => (objBx_cells p.h).1
        have gC1 : ∀ p : HeldW (fun W : World => W.heap[w.heap.size]? = some (objBx (x1, x2, y1, y2, bi))), p.W.cell? ⟨w.heap.size, 1, none⟩ = some (.int .i64 x2) := fun p => (objBx_cells p.h).2.1
        have gC2 : ∀ p : HeldW (fun W : World => W.heap[w.heap.size]? = some (objBx (x1, x2, y1, y2, bi))), p.W.cell? ⟨w.heap.size, 2, none⟩ = some (.int .i64 y1) := fun p => (objBx_cells p.h).2.2.1
        have gC3 : ∀ p : HeldW (fun W : World => W.heap[w.heap.size]? = some (objBx (x1, x2, y1, y2, bi))), p.W.cell? ⟨w.heap.size, 3, none⟩ = some (.int .i64 y2) := fun p => (objBx_cells p.h).2.2.2.1
        have gC4 : ∀ p : HeldW (fun W : World => W.heap[w.heap.size]? = some (objBx (x1, x2, y1, y2, bi))), p.W.cell? ⟨w.heap.size, 4, none⟩ = some (.int .u32 bi) := fun p => (objBx_cells p.h).2.2.2.2
        refine wp_region_head (fun W => ∃ p : HeldW (fun W : World => W.heap[w.heap.size]? = some (objBx (x1, x2, y1, y2, bi))), W = p.W) [5] [(0, true), (1, true)] (by kernel_rfl) (by kernel_rfl) (fun _ _ d _ _ h => by cases d <;> exact h) ⟨⟨_, HX0.out⟩, rfl⟩ 4 rfl (by kernel_rfl) ?_
        simp only [pickB, List.filterMap_cons, List.filterMap_nil, List.getElem?_toArray, List.getElem?_cons_succ, List.getElem?_cons_zero, Option.map_some]
        repeat (refine wpHd_step (fun K hK => ?_); go_simp; first | (refine hK _ ?_; clear hK K) | (apply Exists.intro; refine ⟨fun _ => ?_, hK _ ?_⟩; rfl; clear hK K))
        refine wpHd_nil ?_
        clear gC0 gC1 gC2 gC3 gC4
        have hw0 : w.heap.size < w1.drew.heap.size := hl3
        have hw10 : w1.heap.size = w1.drew.heap.size := rfl
        have HD0 := Lib.hid (show Below w1.heap.size w1 w1.drew from (Below.refl _ _).drew)
        generalize w1.drew = w0 at *
        refine wpAnyT_ready [2, 3] (by kernel_rfl) (by simp) ?_
        refine AllReadyT.cons rfl (fun K hK => ?_) (AllReadyT.cons rfl (fun K hK => ?_) AllReadyT.nil)
        · go_simp
          obtain ⟨v1, e1'⟩ : ∃ W, W = w0.alloc (.cells #[.int .i64 0, .int .i64 0, .int .i64 0, .int .i64 0, .int .u32 0] 51) := ⟨_, rfl⟩
          have hb1 : Below w0.heap.size w0 v1 := by rw [e1']; exact (Below.refl _ _).alloc (Nat.le_refl _) _
          have XF1 : v1.heap[w0.heap.size]? = some ((.cells #[.int .i64 0, .int .i64 0, .int .i64 0, .int .i64 0, .int .u32 0] 51 (0, 0)) : Obj) := by rw [e1']; exact lit0 _ _
          have hs1 : w0.heap.size < v1.heap.size := (Array.getElem?_eq_some_iff.1 XF1).1
          rw [← e1']
          clear e1'
          refine hK _ _ (fun _ _ => ⟨⟨_, (hb1.block _ hw0).trans HX0.out⟩, rfl⟩) ?_
          clear hK K
          refine wpAnyT_ready [3] (by kernel_rfl) (by simp) ?_
          refine AllReadyT.cons rfl (fun K hK => ?_) AllReadyT.nil
          go_simp
          obtain ⟨v2, e2'⟩ : ∃ W, W = v1.alloc (.cells #[.int .i64 0, .int .i64 0, .int .i64 0, .int .i64 0, .int .u32 0] 51) := ⟨_, rfl⟩
          have hb2 : Below v1.heap.size v1 v2 := by rw [e2']; exact (Below.refl _ _).alloc (Nat.le_refl _) _
          have XS2 : v2.heap[v1.heap.size]? = some ((.cells #[.int .i64 0, .int .i64 0, .int .i64 0, .int .i64 0, .int .u32 0] 51 (0, 0)) : Obj) := by rw [e2']; exact lit0 _ _
          have XF2 := (hb2.block _ hs1).trans XF1
          have hs2 : v1.heap.size < v2.heap.size := (Array.getElem?_eq_some_iff.1 XS2).1
          have BB : Below w0.heap.size w0 v2 := hb1.trans (hb2.mono (Nat.le_of_lt hs1))
          have XP2 := (BB.block _ hw0).trans HX0.out
          rw [← e2']
          clear e2'
          refine hK _ _ (fun _ _ => ⟨⟨_, XP2⟩, rfl⟩) ?_
          clear hK K
          have ne : w0.heap.size ≠ v1.heap.size := by omega
          refine wpAnyT_ready [4] (by kernel_rfl) (by simp) ?_
          refine AllReadyT.cons rfl (fun K hK => ?_) AllReadyT.nil
          rw [if_pos (by simp [Region.wanted])]
          refine wp_store_row 51 (.tmp 8) (.tmp 10) rfl (w0.heap.size) #[.int .i64 x1, .int .i64 x2, .int .i64 y1, .int .i64 y2, .int .u32 bi] rfl rfl _ _ XF2 (by kernel_rfl) rfl (by simp [Value.oneCell']) ?_
          refine hK _ _ (fun _ _ => ⟨⟨_, (setRow_other _ _ _ _ (by omega)).trans XP2⟩, rfl⟩) ?_
          clear hK K
          refine wpAnyT_line [5] _ _ _ (by kernel_rfl) ?_
          simp only [pick, List.filterMap_cons, List.filterMap_nil, List.getElem?_toArray, List.getElem?_cons_succ, List.getElem?_cons_zero]
          refine wpList_store_rowTo rfl 51 (.tmp 9) (.tmp 11) rfl rfl (v1.heap.size) #[.int .i64 x1, .int .i64 x2, .int .i64 y1, .int .i64 y2, .int .u32 bi] rfl rfl _ _ ((setRow_other _ _ _ _ (Ne.symm ne)).trans XS2) (by kernel_rfl) rfl (by simp [Value.oneCell']) ?_
          have F1 := (setRow_other (v2.setRow (w0.heap.size) #[.int .i64 x1, .int .i64 x2, .int .i64 y1, .int .i64 y2, .int .u32 bi]) (v1.heap.size) (w0.heap.size) #[.int .i64 x1, .int .i64 x2, .int .i64 y1, .int .i64 y2, .int .u32 bi] ne).trans (setRow_heap _ _ _ #[.int .i64 x1, .int .i64 x2, .int .i64 y1, .int .i64 y2, .int .u32 bi] _ _ XF2)
          have F2 := setRow_heap (v2.setRow (w0.heap.size) #[.int .i64 x1, .int .i64 x2, .int .i64 y1, .int .i64 y2, .int .u32 bi]) (v1.heap.size) _ #[.int .i64 x1, .int .i64 x2, .int .i64 y1, .int .i64 y2, .int .u32 bi] _ _ ((setRow_other _ _ _ _ (Ne.symm ne)).trans XS2)
          have FB := below_setRow (below_setRow BB (show w0.heap.size ≤ w0.heap.size by omega) #[.int .i64 x1, .int .i64 x2, .int .i64 y1, .int .i64 y2, .int .u32 bi]) (show w0.heap.size ≤ v1.heap.size by omega) #[.int .i64 x1, .int .i64 x2, .int .i64 y1, .int .i64 y2, .int .u32 bi]
          generalize (v2.setRow (w0.heap.size) #[.int .i64 x1, .int .i64 x2, .int .i64 y1, .int .i64 y2, .int .u32 bi]).setRow (v1.heap.size) #[.int .i64 x1, .int .i64 x2, .int .i64 y1, .int .i64 y2, .int .u32 bi] = W9 at *
          go_wp2_with fail
          go_meet
          exact ⟨_, _, rfl, rfl, Lib.hid ne, by omega, by omega, Lib.hid (Below.trans HD0.out (FB.mono (Nat.le_of_eq hw10))), Lib.hid F1, Lib.hid F2⟩
        · go_simp
          obtain ⟨v1, e1'⟩ : ∃ W, W = w0.alloc (.cells #[.int .i64 0, .int .i64 0, .int .i64 0, .int .i64 0, .int .u32 0] 51) := ⟨_, rfl⟩
          have hb1 : Below w0.heap.size w0 v1 := by rw [e1']; exact (Below.refl _ _).alloc (Nat.le_refl _) _
          have XF1 : v1.heap[w0.heap.size]? = some ((.cells #[.int .i64 0, .int .i64 0, .int .i64 0, .int .i64 0, .int .u32 0] 51 (0, 0)) : Obj) := by rw [e1']; exact lit0 _ _
          have hs1 : w0.heap.size < v1.heap.size := (Array.getElem?_eq_some_iff.1 XF1).1
          rw [← e1']
          clear e1'
          refine hK _ _ (fun _ _ => ⟨⟨_, (hb1.block _ hw0).trans HX0.out⟩, rfl⟩) ?_
          clear hK K
          refine wpAnyT_ready [2] (by kernel_rfl) (by simp) ?_
          refine AllReadyT.cons rfl (fun K hK => ?_) AllReadyT.nil
          go_simp
          obtain ⟨v2, e2'⟩ : ∃ W, W = v1.alloc (.cells #[.int .i64 0, .int .i64 0, .int .i64 0, .int .i64 0, .int .u32 0] 51) := ⟨_, rfl⟩
          have hb2 : Below v1.heap.size v1 v2 := by rw [e2']; exact (Below.refl _ _).alloc (Nat.le_refl _) _
          have XS2 : v2.heap[v1.heap.size]? = some ((.cells #[.int .i64 0, .int .i64 0, .int .i64 0, .int .i64 0, .int .u32 0] 51 (0, 0)) : Obj) := by rw [e2']; exact lit0 _ _
          have XF2 := (hb2.block _ hs1).trans XF1
          have hs2 : v1.heap.size < v2.heap.size := (Array.getElem?_eq_some_iff.1 XS2).1
          have BB : Below w0.heap.size w0 v2 := hb1.trans (hb2.mono (Nat.le_of_lt hs1))
          have XP2 := (BB.block _ hw0).trans HX0.out
          rw [← e2']
          clear e2'
          refine hK _ _ (fun _ _ => ⟨⟨_, XP2⟩, rfl⟩) ?_
          clear hK K
          have ne : v1.heap.size ≠ w0.heap.size := by omega
          refine wpAnyT_ready [4] (by kernel_rfl) (by simp) ?_
          refine AllReadyT.cons rfl (fun K hK => ?_) AllReadyT.nil
          rw [if_pos (by simp [Region.wanted])]
          refine wp_store_row 51 (.tmp 8) (.tmp 10) rfl (v1.heap.size) #[.int .i64 x1, .int .i64 x2, .int .i64 y1, .int .i64 y2, .int .u32 bi] rfl rfl _ _ XS2 (by kernel_rfl) rfl (by simp [Value.oneCell']) ?_
          refine hK _ _ (fun _ _ => ⟨⟨_, (setRow_other _ _ _ _ (by omega)).trans XP2⟩, rfl⟩) ?_
          clear hK K
          refine wpAnyT_line [5] _ _ _ (by kernel_rfl) ?_
          simp only [pick, List.filterMap_cons, List.filterMap_nil, List.getElem?_toArray, List.getElem?_cons_succ, List.getElem?_cons_zero]
          refine wpList_store_rowTo rfl 51 (.tmp 9) (.tmp 11) rfl rfl (w0.heap.size) #[.int .i64 x1, .int .i64 x2, .int .i64 y1, .int .i64 y2, .int .u32 bi] rfl rfl _ _ ((setRow_other _ _ _ _ (Ne.symm ne)).trans XF2) (by kernel_rfl) rfl (by simp [Value.oneCell']) ?_
          have F1 := (setRow_other (v2.setRow (v1.heap.size) #[.int .i64 x1, .int .i64 x2, .int .i64 y1, .int .i64 y2, .int .u32 bi]) (w0.heap.size) (v1.heap.size) #[.int .i64 x1, .int .i64 x2, .int .i64 y1, .int .i64 y2, .int .u32 bi] ne).trans (setRow_heap _ _ _ #[.int .i64 x1, .int .i64 x2, .int .i64 y1, .int .i64 y2, .int .u32 bi] _ _ XS2)
          have F2 := setRow_heap (v2.setRow (v1.heap.size) #[.int .i64 x1, .int .i64 x2, .int .i64 y1, .int .i64 y2, .int .u32 bi]) (w0.heap.size) _ #[.int .i64 x1, .int .i64 x2, .int .i64 y1, .int .i64 y2, .int .u32 bi] _ _ ((setRow_other _ _ _ _ (Ne.symm ne)).trans XF2)
          have FB := below_setRow (below_setRow BB (show w0.heap.size ≤ v1.heap.size by omega) #[.int .i64 x1, .int .i64 x2, .int .i64 y1, .int .i64 y2, .int .u32 bi]) (show w0.heap.size ≤ w0.heap.size by omega) #[.int .i64 x1, .int .i64 x2, .int .i64 y1, .int .i64 y2, .int .u32 bi]
          generalize (v2.setRow (v1.heap.size) #[.int .i64 x1, .int .i64 x2, .int .i64 y1, .int .i64 y2, .int .u32 bi]).setRow (w0.heap.size) #[.int .i64 x1, .int .i64 x2, .int .i64 y1, .int .i64 y2, .int .u32 bi] = W9 at *
          go_wp2_with fail
          go_meet
          exact ⟨_, _, rfl, rfl, Lib.hid ne, by omega, by omega, Lib.hid (Below.trans HD0.out (FB.mono (Nat.le_of_eq hw10))), Lib.hid F1, Lib.hid F2⟩
  case rest =>
        obtain ⟨g1, g2, rfl, rfl, hne, hg1, hg2, HB, H1, H2⟩ := hcut
        obtain ⟨y0, y1', y2', y3, y4⟩ := objBx_cells H1.out
        obtain ⟨z0, z1, z2, z3, z4⟩ := objBx_cells H2.out
        have f1 := frzBx H1.out 3
        have S1 := heap_setCell_same wc g1 3 _ _ (Value.int .i64 x) H1.out
        have S2 : (wc.setCell ⟨g1, 3, none⟩ (Value.int .i64 x)).heap[g2]? = _ := (heap_setNe (by show g1 ≠ g2; exact hne.out)).trans H2.out
        have f2 := frzBx S2 2
        obtain ⟨z0, z1, z2, z3, z4⟩ := objBx_cells S2
        have U2 := heap_setCell_same _ g2 2 _ _ (Value.int .i64 (x + 1)) S2
        have hne1 := hne.out
        have hne2 := Ne.symm hne.out
        have U1 : ((wc.setCell ⟨g1, 3, none⟩ (Value.int .i64 x)).setCell ⟨g2, 2, none⟩ (Value.int .i64 (x + 1))).heap[g1]? = some (objBx (x1, x2, y1, x, bi)) := (heap_setNe (by show g2 ≠ g1; exact hne2)).trans S1
        have U2' : ((wc.setCell ⟨g1, 3, none⟩ (Value.int .i64 x)).setCell ⟨g2, 2, none⟩ (Value.int .i64 (x + 1))).heap[g2]? = some (objBx (x1, x2, x + 1, y2, bi)) := U2
        have BU : Below w1.heap.size w1 ((wc.setCell ⟨g1, 3, none⟩ (Value.int .i64 x)).setCell ⟨g2, 2, none⟩ (Value.int .i64 (x + 1))) := (HB.out.setCell (by show w1.heap.size ≤ g1; omega) _).setCell (by show w1.heap.size ≤ g2; omega) _
        have HU1 := Lib.hid U1
        have HU2 := Lib.hid U2'
        have HBU := Lib.hid BU
        clear S1 U1 U2 U2' BU H1 H2
        go_upto_region 6 with fail
        clear y0 y1' y2' y3 y4 z0 z1 z2 z3 z4 f1 f2 S2
        generalize (wc.setCell ⟨g1, 3, none⟩ (Value.int .i64 x)).setCell ⟨g2, 2, none⟩ (Value.int .i64 (x + 1)) = wd at *
        have HX0 := Lib.hid (show wd.drew.heap[g1]? = some (objBx (x1, x2, y1, x, bi)) ∧ wd.drew.heap[g2]? = some (objBx (x1, x2, x + 1, y2, bi)) from ⟨HU1.out, HU2.out⟩)
        have gC : ∀ p : HeldW (fun W : World => W.heap[g1]? = some (objBx (x1, x2, y1, x, bi)) ∧ W.heap[g2]? = some (objBx (x1, x2, x + 1, y2, bi))), p.W.cell? ⟨g1, 0, none⟩ = some (.int .i64 _) ∧ p.W.cell? ⟨g1, 1, none⟩ = some (.int .i64 _) ∧ p.W.cell? ⟨g1, 2, none⟩ = some (.int .i64 _) ∧ p.W.cell? ⟨g1, 3, none⟩ = some (.int .i64 _) ∧ p.W.cell? ⟨g1, 4, none⟩ = some (.int .u32 _) := fun p => objBx_cells p.h.1
        have gD : ∀ p : HeldW (fun W : World => W.heap[g1]? = some (objBx (x1, x2, y1, x, bi)) ∧ W.heap[g2]? = some (objBx (x1, x2, x + 1, y2, bi))), p.W.cell? ⟨g2, 0, none⟩ = some (.int .i64 _) ∧ p.W.cell? ⟨g2, 1, none⟩ = some (.int .i64 _) ∧ p.W.cell? ⟨g2, 2, none⟩ = some (.int .i64 _) ∧ p.W.cell? ⟨g2, 3, none⟩ = some (.int .i64 _) ∧ p.W.cell? ⟨g2, 4, none⟩ = some (.int .u32 _) := fun p => objBx_cells p.h.2
        have gC0 := fun p => (gC p).1
        have gC1 := fun p => (gC p).2.1
        have gC2 := fun p => (gC p).2.2.1
        have gC3 := fun p => (gC p).2.2.2.1
        have gC4 := fun p => (gC p).2.2.2.2
        have gD0 := fun p => (gD p).1
        have gD1 := fun p => (gD p).2.1
        have gD2 := fun p => (gD p).2.2.1
        have gD3 := fun p => (gD p).2.2.2.1
        have gD4 := fun p => (gD p).2.2.2.2
        clear gC gD
        simp only at gC0 gC1 gC2 gC3 gC4 gD0 gD1 gD2 gD3 gD4
        refine wp_region_head (fun W => ∃ p : HeldW (fun W : World => W.heap[g1]? = some (objBx (x1, x2, y1, x, bi)) ∧ W.heap[g2]? = some (objBx (x1, x2, x + 1, y2, bi))), W = p.W) [3] [(0, true), (1, true)] (by kernel_rfl) (by kernel_rfl) (fun _ _ d _ _ h => by cases d <;> exact h) ⟨⟨_, HX0.out⟩, rfl⟩ 2 rfl (by kernel_rfl) ?_
        simp only [pickB, List.filterMap_cons, List.filterMap_nil, List.getElem?_toArray, List.getElem?_cons_succ, List.getElem?_cons_zero, Option.map_some]
        repeat (refine wpHd_step (fun K hK => ?_); go_simp; first | (refine hK _ ?_; clear hK K) | (apply Exists.intro; refine ⟨fun _ => ?_, hK _ ?_⟩; rfl; clear hK K))
        refine wpHd_nil ?_
        clear gC0 gC1 gC2 gC3 gC4 gD0 gD1 gD2 gD3 gD4
        have hX6 : wd.drew.heap[w.heap.size + 1]? = some ((.cells #[.int .i64 0, .int .i64 0, .int .i64 0, .int .i64 0, .int .u32 0] 51 (0, 0)) : Obj) := (HBU.out.block _ hl6).trans HX6.out
        have hX7 : wd.drew.heap[w.heap.size + 2]? = some ((.cells #[.int .i64 0, .int .i64 0, .int .i64 0, .int .i64 0, .int .u32 0] 51 (0, 0)) : Obj) := (HBU.out.block _ hl7).trans HX7.out
        have hBd : Below w.heap.size w wd.drew := HB1.out.trans ((HBU.out.drew).mono HB1.out.size)
        have hXC := HX0.out
        generalize wd.drew = we at *
        refine wpAnyT_ready [2] (by kernel_rfl) (by simp) ?_
        refine AllReadyT.cons rfl (fun K hK => ?_) AllReadyT.nil
        rw [if_pos (by simp [Region.wanted])]
        refine wp_store_row 51 (.tmp 6) (.tmp 25) rfl (w.heap.size + 1) #[.int .i64 x1, .int .i64 x2, .int .i64 y1, .int .i64 x, .int .u32 bi] rfl rfl _ _ hX6 (by kernel_rfl) rfl (by simp [Value.oneCell']) ?_
        refine hK _ _ (fun _ _ => ⟨⟨_, (setRow_other _ _ _ _ (by omega)).trans hXC.1, (setRow_other _ _ _ _ (by omega)).trans hXC.2⟩, rfl⟩) ?_
        clear hK K
        refine wpAnyT_line [3] _ _ _ (by kernel_rfl) ?_
        simp only [pick, List.filterMap_cons, List.filterMap_nil, List.getElem?_toArray, List.getElem?_cons_succ, List.getElem?_cons_zero]
        refine wpList_store_rowTo rfl 51 (.tmp 7) (.tmp 26) rfl rfl (w.heap.size + 2) #[.int .i64 x1, .int .i64 x2, .int .i64 (x + 1), .int .i64 y2, .int .u32 bi] rfl rfl _ _ ((setRow_other _ _ _ _ (by omega)).trans hX7) (by kernel_rfl) rfl (by simp [Value.oneCell']) ?_
        have F1 := (setRow_other (we.setRow (w.heap.size + 1) #[.int .i64 x1, .int .i64 x2, .int .i64 y1, .int .i64 x, .int .u32 bi]) (w.heap.size + 2) (w.heap.size + 1) #[.int .i64 x1, .int .i64 x2, .int .i64 (x + 1), .int .i64 y2, .int .u32 bi] (by omega)).trans (setRow_heap _ _ _ #[.int .i64 x1, .int .i64 x2, .int .i64 y1, .int .i64 x, .int .u32 bi] _ _ hX6)
        have F2 := setRow_heap (we.setRow (w.heap.size + 1) #[.int .i64 x1, .int .i64 x2, .int .i64 y1, .int .i64 x, .int .u32 bi]) (w.heap.size + 2) _ #[.int .i64 x1, .int .i64 x2, .int .i64 (x + 1), .int .i64 y2, .int .u32 bi] _ _ ((setRow_other _ _ _ _ (by omega)).trans hX7)
        have FB := below_setRow (below_setRow hBd (show w.heap.size ≤ w.heap.size + 1 by omega) #[.int .i64 x1, .int .i64 x2, .int .i64 y1, .int .i64 x, .int .u32 bi]) (show w.heap.size ≤ w.heap.size + 2 by omega) #[.int .i64 x1, .int .i64 x2, .int .i64 (x + 1), .int .i64 y2, .int .u32 bi]
        generalize (we.setRow (w.heap.size + 1) #[.int .i64 x1, .int .i64 x2, .int .i64 y1, .int .i64 x, .int .u32 bi]).setRow (w.heap.size + 2) #[.int .i64 x1, .int .i64 x2, .int .i64 (x + 1), .int .i64 y2, .int .u32 bi] = W9 at *
        go_wp2_with fail
        (try simp only [Exit.inBlock, Exit.then])
        refine bodyPost_ret (results_two rfl _ _ (w.heap.size + 1) (w.heap.size + 2) _ _ _ _ _ _ _ rfl rfl F1 F2 Tryz.underlying51 rfl (by kernel_rfl) (by kernel_rfl)) rfl ?_
        exact ⟨rfl, FB⟩
end Go.Proofs.YthpgkldpbbajfaaGreat
