/- The walks of the laws of layer 4 (rank). -/
import Derived.Test.YtlhmipjbpbbcbaaRankAwW
namespace Go.Proofs.Ytlhmipjbpbbcbaa
open Go.RowKit

set_option maxRecDepth 100000 in
set_option maxHeartbeats 1000000 in
theorem wRankTells (a : Option Addr) (l : List Int) (c : Nat) (x n : Int) (w : World) (h : Rd (.int .i64) w a l) (hn : n ≤ 9223372036854775807) (hm : l.length ≤ 9223372036854775807) :
    Calls Try.prog 3 #[.slice a l.length c, .int .i64 x, .int .i64 n] w fun e w' => e = .returned (.bool true) ∧ Below w.heap.size w w' := by
  have H := Lib.hid h
  have S := Lib.hid (sqz_facts l)
  have hS := (sqz_facts l).2.2
  clear h
  have B0 := Below.refl w.heap.size w
  by_cases h300 : 300 < l.length
  · have A := Lib.hid (awake04 w)
    go_enter Try.func3, Try.ntmps3
    go_wp2_with fail
    refine A.out.mono ?_
    rintro e w1 ⟨rfl, hb⟩
    go_wp2_with fail
    go_ret
    exact ⟨rfl, hb⟩
  · go_enter Try.func3, Try.ntmps3
    go_wp2_with fail
    refine (copyLongs a l c w H.out (by omega)).mono ?_
    rintro e w1 ⟨v1, rfl, hown, hb⟩
    have B1 := B0.trans (hb.mono (by first | exact B0.size | (have := B0.size; simp at this ⊢; omega)))
    obtain ⟨a1, c1, rfl, _, _, hr⟩ := Rd.of_owns hown
    have R1 := Lib.hid hr
    clear hr hown
    clear hb
    go_wp2_with fail
    refine (rFirst a1 l c1 x _ R1.out (by omega)).mono ?_
    rintro e w2 ⟨rfl, hb⟩
    have B2 := B1.trans (hb.mono (by first | exact B1.size | (have := B1.size; simp at this ⊢; omega)))
    have R2 := Lib.hid (R1.out.below hb)
    clear hb
    go_wp2_with fail
    refine (refFirst a l c x _ (H.out.below B2) (by omega)).mono ?_
    rintro e w3 ⟨rfl, hb⟩
    have B3 := B2.trans (hb.mono (by first | exact B2.size | (have := B2.size; simp at this ⊢; omega)))
    have R3 := Lib.hid (R2.out.below hb)
    clear hb
    go_wp2_with fail
    refine (rAbove a1 l c1 x _ R3.out (by omega)).mono ?_
    rintro e w4 ⟨rfl, hb⟩
    have B4 := B3.trans (hb.mono (by first | exact B3.size | (have := B3.size; simp at this ⊢; omega)))
    have R4 := Lib.hid (R3.out.below hb)
    clear hb
    go_wp2_with fail
    refine (refAbove a l c x _ (H.out.below B4) (by omega)).mono ?_
    rintro e w5 ⟨rfl, hb⟩
    have B5 := B4.trans (hb.mono (by first | exact B4.size | (have := B4.size; simp at this ⊢; omega)))
    have R5 := Lib.hid (R4.out.below hb)
    clear hb
    go_wp2_with fail
    refine (rSqueeze a1 l c1 _ R5.out (by omega)).mono ?_
    rintro e w6 ⟨v6, rfl, hown, hb⟩
    have B6 := B5.trans (hb.mono (by first | exact B5.size | (have := B5.size; simp at this ⊢; omega)))
    obtain ⟨a6, c6, rfl, _, _, hr⟩ := Rd.of_owns hown
    have R6 := Lib.hid hr
    clear hr hown
    have R7 := Lib.hid (R5.out.below hb)
    clear hb
    go_wp2_with fail
    refine (refSqueeze a l (sqz l) c _ (H.out.below B6) (by omega) S.out.1 S.out.2.1 S.out.2.2).mono ?_
    rintro e w7 ⟨v7, rfl, hown, hb⟩
    have B7 := B6.trans (hb.mono (by first | exact B6.size | (have := B6.size; simp at this ⊢; omega)))
    obtain ⟨a7, c7, rfl, _, _, hr⟩ := Rd.of_owns hown
    have R8 := Lib.hid hr
    clear hr hown
    have R9 := Lib.hid (R7.out.below hb)
    have R10 := Lib.hid (R6.out.below hb)
    clear hb
    go_wp2_with fail
    refine (same_longs a6 a7 (sqz l) (sqz l) c6 c7 _ R10.out R8.out (by omega) (by omega)).mono ?_
    rintro e w8 ⟨rfl, hb⟩
    have B8 := B7.trans (hb.mono (by first | exact B7.size | (have := B7.size; simp at this ⊢; omega)))
    have R11 := Lib.hid (R9.out.below hb)
    simp only [decide_true]
    clear hb
    go_wp2_with fail
    refine (rLog n _ (by omega)).mono ?_
    rintro e w9 ⟨rfl, hb⟩
    have B9 := B8.trans (hb.mono (by first | exact B8.size | (have := B8.size; simp at this ⊢; omega)))
    have R12 := Lib.hid (R11.out.below hb)
    clear hb
    go_wp2_with fail
    refine (refLog n _ (by omega)).mono ?_
    rintro e w10 ⟨rfl, hb⟩
    have B10 := B9.trans (hb.mono (by first | exact B9.size | (have := B9.size; simp at this ⊢; omega)))
    have R13 := Lib.hid (R12.out.below hb)
    clear hb
    go_wp2_with fail
    refine (same_longs a1 a l l c1 c _ R13.out (H.out.below B10) (by omega) (by omega)).mono ?_
    rintro e w11 ⟨rfl, hb⟩
    have B11 := B10.trans (hb.mono (by first | exact B10.size | (have := B10.size; simp at this ⊢; omega)))
    simp only [decide_true]
    clear hb
    go_wp2_with fail
    refine (awake04 _).mono ?_
    rintro e w12 ⟨rfl, hb⟩
    have B12 := B11.trans (hb.mono (by first | exact B11.size | (have := B11.size; simp at this ⊢; omega)))
    clear hb

    go_wp2_with fail
    go_ret
    exact ⟨rfl, B12⟩

end Go.Proofs.Ytlhmipjbpbbcbaa
