/- awake of chapter 21. -/
import Derived.Test.YtpebefcmloablaaDir
namespace Go.Proofs.Ytpebefcmloablaa
open Go.RowKit Go.Maps
set_option linter.unusedSimpArgs false
set_option linter.unusedVariables false

set_option maxRecDepth 100000 in
set_option maxHeartbeats 8000000 in
theorem awake21 (W : World) : Calls Try.prog 36 #[] W fun e w' => e = .returned (.bool true) ∧ Below W.heap.size W w' := by
  obtain ⟨B, hB⟩ : ∃ B, B = W.heap.size := ⟨_, rfl⟩
  have C1 := oNew W
  rw [← hB] at C1 ⊢
  have hBW : B ≤ W.heap.size := Nat.le_of_eq hB
  have HC1 := Lib.hid C1
  clear hB C1
  go_enter Try.func36, Try.ntmps36
  go_wp2_with fail
  refine HC1.out.mono ?_
  rintro e w1 ⟨rfl, o, hb⟩
  have h1 : B ≤ w1.heap.size := Nat.le_trans hBW hb.size
  have O1 := Lib.hid o
  have HB1 := Lib.hid hb
  clear o hb HC1
  go_wp2_with fail
  refine (oPut_new O1.out h1 (by decide) 7 70 (by simp)).mono ?_
  rintro e w2 ⟨rfl, o, hb, -⟩
  have h2 : B ≤ w2.heap.size := Nat.le_trans h1 hb.size
  have O2 : Hid (Own w2 B (B + 1) 1 [(7, 70)]) := Lib.hid o
  have HB2 := Lib.hid (HB1.out.trans hb)
  clear o hb
  go_wp2_with fail
  refine (oPut_new O2.out h2 (by decide) 3 30 (by simp)).mono ?_
  rintro e w3 ⟨rfl, o, hb, -⟩
  have h3 : B ≤ w3.heap.size := Nat.le_trans h2 hb.size
  have O3 : Hid (Own w3 B (B + 1) 2 [(7, 70), (3, 30)]) := Lib.hid o
  have HB3 := Lib.hid (HB2.out.trans hb)
  clear o hb
  go_wp2_with fail
  refine (dAll O3.out).mono ?_
  rintro e w4 ⟨v, rfl, hown, hb⟩
  have h4 : B ≤ w4.heap.size := Nat.le_trans h3 hb.size
  have O4 := Lib.hid (O3.out.below hb)
  have HB4 := Lib.hid (HB3.out.trans (hb.mono h3))
  have hsort : (([(7, 70), (3, 30)] : List (Int × Int)).map (·.1)).mergeSort (fun x y => decide (x ≤ y)) = [3, 7] := by
    have h9 : ([7, 3] : List Int).Perm [3, 7] := List.Perm.swap _ _ _
    rw [show ([(7, 70), (3, 30)] : List (Int × Int)).map (·.1) = [7, 3] from rfl, sorted_perm h9]
    exact List.mergeSort_of_pairwise (by simp)
  rw [hsort] at hown
  obtain ⟨av, cp, rfl, -, -, hrd⟩ := Rd.of_owns hown
  obtain ⟨b, off, rfl, hbl, hcs⟩ := hrd.get (by decide)
  have x0 := hcs 0 (by decide)
  have x1 := hcs 1 (by decide)
  simp only [Nat.add_zero, List.getElem_cons_zero, List.getElem_cons_succ] at x0 x1
  clear hb hown hsort hrd hcs
  go_wp2_with fail
  refine (dFind O4.out 7).mono ?_
  rintro e w5 ⟨t, -, hk, hb⟩
  obtain rfl : e = .returned (.tuple #[.int .i64 70, .bool true, .int .i64 t]) := by
    rcases hk with ⟨p, h9, h8⟩ | ⟨h9, -⟩
    · simp at h9; rw [h8, h9]
    · exact absurd (show ((7 : Int), (70 : Int)) ∈ _ by simp) (h9 70)
  have h5 : B ≤ w5.heap.size := Nat.le_trans h4 hb.size
  have y0 := (hb.cell (p := ⟨b, off, none⟩) hbl).trans x0
  have y1 := (hb.cell (p := ⟨b, off + 1, none⟩) hbl).trans x1
  have O5 := Lib.hid (O4.out.below hb)
  have HB5 := Lib.hid (HB4.out.trans (hb.mono h4))
  clear hk hb x0 x1
  go_wp2_with fail
  refine (dPut_there O5.out 7 1 70 (by simp)).mono ?_
  rintro e w6 ⟨rfl, hb⟩
  have h6 : B ≤ w6.heap.size := Nat.le_trans h5 hb.size
  have O6 := Lib.hid (O5.out.below hb)
  have HB6 := Lib.hid (HB5.out.trans (hb.mono h5))
  clear hb
  go_wp2_with fail
  refine (oDrop_yes O6.out h6 7 70 (by simp)).mono ?_
  rintro e w7 ⟨rfl, o, hb, -⟩
  have h7 : B ≤ w7.heap.size := Nat.le_trans h6 hb.size
  have O7 : Hid (Own w7 B (B + 1) 2 [(3, 30)]) := Lib.hid o
  have HB7 := Lib.hid (HB6.out.trans hb)
  clear o hb
  go_wp2_with fail
  refine (dFind O7.out 7).mono ?_
  rintro e w8 ⟨t8, -, hk, hb⟩
  obtain rfl : e = .returned (.tuple #[.int .i64 0, .bool false, .int .i64 t8]) := by
    rcases hk with ⟨p, h9, h8⟩ | ⟨-, h8⟩
    · simp at h9
    · exact h8
  have h8 : B ≤ w8.heap.size := Nat.le_trans h7 hb.size
  have O8 := Lib.hid (O7.out.below hb)
  have HB8 := Lib.hid (HB7.out.trans (hb.mono h7))
  clear hk hb
  go_wp2_with fail
  refine (oPut_new O8.out h8 (by decide) 7 71 (by simp)).mono ?_
  rintro e w9 ⟨rfl, o, hb, -⟩
  have h9 : B ≤ w9.heap.size := Nat.le_trans h8 hb.size
  have O9 : Hid (Own w9 B (B + 1) 3 [(3, 30), (7, 71)]) := Lib.hid o
  have HB9 := Lib.hid (HB8.out.trans hb)
  clear o hb
  go_wp2_with fail
  refine (oDrop_yes O9.out h9 3 30 (by simp)).mono ?_
  rintro e w10 ⟨rfl, o, hb, -⟩
  have h10 : B ≤ w10.heap.size := Nat.le_trans h9 hb.size
  have O10 : Hid (Own w10 B (B + 1) 3 [(7, 71)]) := Lib.hid o
  have HB10 := Lib.hid (HB9.out.trans hb)
  clear o hb
  go_wp2_with fail
  refine (oDrop_yes O10.out h10 7 71 (by simp)).mono ?_
  rintro e w11 ⟨rfl, o, hb, -⟩
  have h11 : B ≤ w11.heap.size := Nat.le_trans h10 hb.size
  have O11 : Hid (Own w11 B (B + 1) 3 []) := Lib.hid o
  have HB11 := Lib.hid (HB10.out.trans hb)
  clear o hb
  obtain ⟨N, -, hN, CS⟩ := dStored O11.out
  obtain rfl : N = 0 := by simpa using hN
  have HCS := Lib.hid CS
  clear CS hN
  go_wp2_with fail
  refine HCS.out.mono ?_
  rintro e w12 ⟨rfl, hb⟩
  have HB12 := Lib.hid (HB11.out.trans (hb.mono h11))
  have O12 := Lib.hid (O11.out.below hb)
  have h12 : B ≤ w12.heap.size := Nat.le_trans h11 hb.size
  clear hb
  go_wp2_with fail
  refine (dLen O12.out).mono ?_
  rintro e w13 ⟨rfl, hb⟩
  have HB13 := Lib.hid (HB12.out.trans (hb.mono h12))
  clear hb
  go_wp2
  go_ret
  exact ⟨rfl, HB13.out⟩

end Go.Proofs.Ytpebefcmloablaa
