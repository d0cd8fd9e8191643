/- corner.on, box, nothing, none. -/
import Derived.Test.YthplgcakhniidaaGreatQ3
import Derived.Test.YthplgcakhniidaaGreatCrnP
import Derived.Laws.Rows
namespace Go.Proofs.YthplgcakhniidaaGreat
open Go.RowKit Go.Maps
attribute [local irreducible] wpQuiet
set_option linter.unusedSimpArgs false
set_option linter.unusedVariables false

theorem cn_on (x : Int) (up : Bool) (w : World) :
    Calls Tryz.prog 85 #[.int .i64 x, .bool up] w fun e w' => e = .returned (.tuple #[.int .i64 (bx1 x up), .int .i64 (bx2 x up)]) ∧ w' = w := by
  cases up
  all_goals
    go_enter Tryz.func85, Tryz.ntmps85
    go_wp2
    go_ret2
    exact ⟨rfl, rfl⟩

set_option maxRecDepth 100000 in
set_option maxHeartbeats 4000000 in
theorem cn_boxE (x y : Int) (wx wy : Bool) (way : Int) (hway : way = (if wx then 1 else 0) + (if wy then 2 else 0)) (w : World) :
    Calls Tryz.prog 50 #[.int .i64 x, .int .i64 y, .int .u8 way] w fun e w' => e = .returned (.agg #[.int .i64 (bx1 x wx), .int .i64 (bx2 x wx), .int .i64 (bx1 y wy), .int .i64 (bx2 y wy), .int .u32 0]) ∧ w' = (w.alloc (.cells #[.int .i64 (bx1 x wx), .int .i64 (bx2 x wx), .int .i64 (bx1 y wy), .int .i64 (bx2 y wy), .int .u32 0] 39)).alloc (.cells #[.int .i64 (bx1 x wx), .int .i64 (bx2 x wx), .int .i64 (bx1 y wy), .int .i64 (bx2 y wy), .int .u32 0] 39) := by
  have C := Lib.hid (fun x up w => cn_on x up w)
  cases wx <;> cases wy <;> simp only [if_true, if_false, Bool.false_eq_true, Int.add_zero, Int.zero_add, Int.reduceAdd] at hway <;> subst hway
  all_goals
    go_enter Tryz.func50, Tryz.ntmps50
    go_wp2_with (go_at_call 85; refine (C.out _ _ _).mono ?_; rintro e w1 ⟨rfl, rfl⟩)
    (try simp only [Exit.inBlock, Exit.then])
    refine bodyPost_ret (results_cell_row rfl _ _ w.heap.size _ _ _ _ rfl (lit1 _ _ _) Tryz.underlying39 rfl (by kernel_rfl)) rfl ?_
    first
      | exact ⟨rfl, rfl⟩
      | (simp only [show (bits .and .u8 0 1 == 1) = false by decide, show (bits .and .u8 0 2 == 2) = false by decide, show (bits .and .u8 1 1 == 1) = true by decide, show (bits .and .u8 1 2 == 2) = false by decide, show (bits .and .u8 2 1 == 1) = false by decide, show (bits .and .u8 2 2 == 2) = true by decide, show (bits .and .u8 3 1 == 1) = true by decide, show (bits .and .u8 3 2 == 2) = true by decide]; exact ⟨rfl, rfl⟩)

theorem cn_box (x y : Int) (wx wy : Bool) (way : Int) (hway : way = (if wx then 1 else 0) + (if wy then 2 else 0)) (w : World) :
    Calls Tryz.prog 50 #[.int .i64 x, .int .i64 y, .int .u8 way] w fun e w' => e = .returned (.agg #[.int .i64 (bx1 x wx), .int .i64 (bx2 x wx), .int .i64 (bx1 y wy), .int .i64 (bx2 y wy), .int .u32 0]) ∧ Below w.heap.size w w' :=
  (cn_boxE x y wx wy way hway w).mono fun e w' ⟨h1, h2⟩ => ⟨h1, by rw [h2]; exact ((Below.refl _ _).alloc (Nat.le_refl _) _).alloc (by simp) _⟩

theorem cn_nothing (w : World) :
    Calls Tryz.prog 51 #[] w fun e w' => e = .returned (.agg #[.int .i64 1, .int .i64 0, .int .i64 0, .int .i64 0, .int .u32 0]) ∧ Below w.heap.size w w' := by
  go_enter Tryz.func51, Tryz.ntmps51
  go_wp2
  (try simp only [Exit.inBlock, Exit.then])
  refine bodyPost_ret (results_cell_row rfl _ _ w.heap.size _ _ _ _ rfl (lit0 _ _) Tryz.underlying39 rfl (by kernel_rfl)) rfl ?_
  exact ⟨rfl, (Below.refl _ _).alloc (Nat.le_refl _) _⟩

theorem cn_none_nil (w : World) :
    Calls Tryz.prog 73 #[.pointer none] w fun e w' => e = .returned (.bool true) ∧ w' = w := by
  go_enter Tryz.func73, Tryz.ntmps73
  go_wp2
  go_ret
  exact ⟨rfl, rfl⟩
theorem cn_none (cb : Nat) (tb : Nat) (w : World) (h : w.cell? ⟨cb, 0, none⟩ = some (.pointer (some ⟨tb, 0, none⟩))) :
    Calls Tryz.prog 73 #[.pointer (some ⟨cb, 0, none⟩)] w fun e w' => e = .returned (.bool false) ∧ w' = w := by
  go_enter Tryz.func73, Tryz.ntmps73
  go_wp2
  go_ret
  exact ⟨rfl, rfl⟩
end Go.Proofs.YthplgcakhniidaaGreat
