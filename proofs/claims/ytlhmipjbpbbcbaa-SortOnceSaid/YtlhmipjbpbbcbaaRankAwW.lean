/- gridironlaw04.awake answers true. -/
import Derived.Test.YtlhmipjbpbbcbaaRankAw
namespace Go.Proofs.Ytlhmipjbpbbcbaa
open Go.RowKit

theorem rk1 : rkFirst [1, 3, 3, 7] 3 = (1, 3) := by decide
theorem rk2 : rkAbove [1, 3, 3, 7] 3 = (3, 2) := by decide
theorem rk3 : rkFirst [1, 3, 3, 7] 8 = (4, 2) := by decide
theorem rk4 : rkFirst [1, 3, 3, 7] 0 = (0, 3) := by decide
theorem rk5 : rkFirst [] 3 = (0, 0) := by decide
theorem rk6 : sqz [3, 1, 3] = [1, 3] := sqz_of _ _ (by decide) (by intro x; simp; omega)

set_option maxRecDepth 100000 in
set_option maxHeartbeats 1000000 in
theorem awake04 (w : World) : Calls Try.prog 15 #[] w fun e w' => e = .returned (.bool true) ∧ Below w.heap.size w w' := by
  have R0 := Lib.hid (Rd.lit (enc := Value.int .i64) w 2 [1, 3, 3, 7] _ rfl)
  simp only [List.map_cons, List.map_nil] at R0
  have B0 : Below w.heap.size w (w.alloc (.cells #[.int .i64 1, .int .i64 3, .int .i64 3, .int .i64 7] 2)) := (Below.refl _ _).alloc (Nat.le_refl _) _
  go_enter Try.func15, Try.ntmps15
  go_wp2_with fail
  have c := rFirst _ _ 4 3 _ R0.out (by decide)
  simp only [List.length_cons, List.length_nil, Nat.zero_add, Nat.reduceAdd] at c
  rw [rk1] at c
  refine c.mono ?_
  rintro e w1 ⟨rfl, hb⟩
  have R1 := Lib.hid (R0.out.below hb)
  have B1 := B0.trans (hb.mono B0.size)
  clear c hb B0 R0
  go_wp2_with fail
  have c := rAbove _ _ 4 3 _ R1.out (by decide)
  simp only [List.length_cons, List.length_nil, Nat.zero_add, Nat.reduceAdd] at c
  rw [rk2] at c
  refine c.mono ?_
  rintro e w2 ⟨rfl, hb⟩
  have R2 := Lib.hid (R1.out.below hb)
  have B2 := B1.trans (hb.mono B1.size)
  clear c hb B1 R1
  go_wp2_with fail
  have c := rFirst _ _ 4 8 _ R2.out (by decide)
  simp only [List.length_cons, List.length_nil, Nat.zero_add, Nat.reduceAdd] at c
  rw [rk3] at c
  refine c.mono ?_
  rintro e w3 ⟨rfl, hb⟩
  have R3 := Lib.hid (R2.out.below hb)
  have B3 := B2.trans (hb.mono B2.size)
  clear c hb B2 R2
  go_wp2_with fail
  have c := rFirst _ _ 4 0 _ R3.out (by decide)
  simp only [List.length_cons, List.length_nil, Nat.zero_add, Nat.reduceAdd] at c
  rw [rk4] at c
  refine c.mono ?_
  rintro e w4 ⟨rfl, hb⟩
  have B4 := B3.trans (hb.mono B3.size)
  clear c hb B3 R3
  go_wp2_with fail
  have c := rFirst none [] 0 3 w4 Rd.nil (by decide)
  simp only [List.length_nil] at c
  rw [rk5] at c
  refine c.mono ?_
  rintro e w5 ⟨rfl, hb⟩
  have B5 := B4.trans (hb.mono B4.size)
  clear c hb B4
  go_wp2_with fail
  have B6 : Below w.heap.size w ((w5.alloc (.cells #[.int .i64 1, .int .i64 3, .int .i64 3, .int .i64 2, .int .i64 4, .int .i64 2, .int .i64 0, .int .i64 3, .int .i64 0, .int .i64 0] 3)).alloc (.cells #[.int .i64 1, .int .i64 3, .int .i64 3, .int .i64 2, .int .i64 4, .int .i64 2, .int .i64 0, .int .i64 3, .int .i64 0, .int .i64 0] 3)) := (B5.alloc B5.size _).alloc (by have := B5.size; simp; omega) _
  have c := same_ints (some ⟨w5.heap.size, 0, none⟩) (some ⟨w5.heap.size + 1, 0, none⟩) [1, 3, 3, 2, 4, 2, 0, 3, 0, 0] [1, 3, 3, 2, 4, 2, 0, 3, 0, 0] 10 10 _ ((Rd.lit (enc := Value.int .i64) w5 3 [1, 3, 3, 2, 4, 2, 0, 3, 0, 0] _ rfl).below ((Below.refl _ _).alloc (Nat.le_refl _) _)) (Rd.lit (enc := Value.int .i64) _ 3 [1, 3, 3, 2, 4, 2, 0, 3, 0, 0] _ (by simp)) (by decide) (by decide)
  simp only [List.map_cons, List.map_nil, List.length_cons, List.length_nil, Nat.zero_add, Nat.reduceAdd, decide_true] at c
  refine c.mono ?_
  rintro e w6 ⟨rfl, hb⟩
  have B7 := B6.trans (hb.mono B6.size)
  clear c hb B6 B5
  go_wp2_with fail
  have B8 : Below w.heap.size w (w6.alloc (.cells #[.int .i64 3, .int .i64 1, .int .i64 3] 2)) := B7.alloc B7.size _
  have c := rSqueeze _ [3, 1, 3] 3 _ (Rd.lit (enc := Value.int .i64) w6 2 [3, 1, 3] _ rfl) (by decide)
  simp only [List.map_cons, List.map_nil, List.length_cons, List.length_nil, Nat.zero_add, Nat.reduceAdd] at c
  rw [rk6] at c
  refine c.mono ?_
  rintro e w7 ⟨v, rfl, hown, hb⟩
  obtain ⟨a, cc, rfl, _, _, hr⟩ := Rd.of_owns hown
  have HR := Lib.hid hr
  have B9 := B8.trans (hb.mono B8.size)
  clear c hb B8 B7 hown hr
  go_wp2_with fail
  have B10 : Below w.heap.size w (w7.alloc (.cells #[.int .i64 1, .int .i64 3] 2)) := B9.alloc B9.size _
  have c := same_longs _ _ [1, 3] [1, 3] cc 2 _ (HR.out.below ((Below.refl _ _).alloc (Nat.le_refl _) _)) (Rd.lit (enc := Value.int .i64) w7 2 [1, 3] _ rfl) (by decide) (by decide)
  simp only [List.map_cons, List.map_nil, List.length_cons, List.length_nil, Nat.zero_add, Nat.reduceAdd, decide_true] at c
  refine c.mono ?_
  rintro e w8 ⟨rfl, hb⟩
  have B11 := B10.trans (hb.mono B10.size)
  clear c hb B10 B9 HR
  have L := Lib.hid rLog
  go_wp2_with fail
  refine (L.out 1 _ (by decide)).mono ?_
  rw [show rkLog 1 = 0 by decide]
  rintro e w9 ⟨rfl, hb⟩
  have B12 := B11.trans (hb.mono B11.size)
  clear hb B11
  go_wp2_with fail
  refine (L.out 2 _ (by decide)).mono ?_
  rw [show rkLog 2 = 1 by decide]
  rintro e w10 ⟨rfl, hb⟩
  have B13 := B12.trans (hb.mono B12.size)
  clear hb B12
  go_wp2_with fail
  refine (L.out 3 _ (by decide)).mono ?_
  rw [show rkLog 3 = 2 by decide]
  rintro e w11 ⟨rfl, hb⟩
  have B14 := B13.trans (hb.mono B13.size)
  clear hb B13
  go_wp2_with fail
  refine (L.out 4 _ (by decide)).mono ?_
  rw [show rkLog 4 = 2 by decide]
  rintro e w12 ⟨rfl, hb⟩
  have B15 := B14.trans (hb.mono B14.size)
  clear hb B14
  go_wp2_with fail
  refine (L.out 5 _ (by decide)).mono ?_
  rw [show rkLog 5 = 3 by decide]
  rintro e w13 ⟨rfl, hb⟩
  have B16 := B15.trans (hb.mono B15.size)
  clear hb B15
  go_wp2_with fail
  go_ret
  exact ⟨rfl, B16⟩

end Go.Proofs.Ytlhmipjbpbbcbaa
