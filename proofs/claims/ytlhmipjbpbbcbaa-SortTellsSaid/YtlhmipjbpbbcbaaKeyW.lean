/- gridironlaw03.awake answers true. -/
import Derived.Test.YtlhmipjbpbbcbaaKeyT
import Derived.Test.YtlhmipjbpbbcbaaKeyQ
import Derived.Test.YtlhmipjbpbbcbaaSame
namespace Go.Proofs.Ytlhmipjbpbbcbaa
open Go.RowKit

def ints (l : List Nat) : List Int := l.map fun (j : Nat) => (j : Int)
theorem ints_len (l : List Nat) : (ints l).length = l.length := by simp [ints]
theorem Rd_ints {w : World} {a : Option Addr} {l : List Nat} (h : Rd eNat w a l) : Rd (.int .i64) w a (ints l) := by
  rcases h with rfl | ⟨b, off, rfl, hb, hc⟩
  · exact .inl rfl
  · refine .inr ⟨b, off, rfl, hb, fun i hi => ?_⟩
    have hi' : i < l.length := by simpa [ints] using hi
    rw [hc i hi']
    simp [eNat, ints]

theorem ow1 : ordL [(5, 1), (3, 2), (5, 0)] = [1, 2, 0] := by simp [ordL, srtF, leK, ordK, cmpI, List.range, List.range.loop]
theorem ow2 : mrgL [(1, 1), (4, 1)] [(1, 1), (2, 9)] = [0, 2, 3, 1] := by simp [mrgL, leK, ordK, cmpI, List.range, List.range.loop, List.range']
theorem ow3 : riseK [(1, 1), (4, 1)] = true := by decide
theorem ow4 : riseK [(1, 1), (2, 9)] = true := by decide
theorem ow5 : riseK [(2, 1), (1, 1)] = false := by decide
theorem ow6 : wrF 3 3 = 5 := by decide

set_option maxRecDepth 100000 in
set_option maxHeartbeats 2000000 in
theorem awake03 (w : World) : Calls Try.prog 26 #[] w fun e w' => e = .returned (.bool true) ∧ Below w.heap.size w w' := by
  have L := Lib.hid (RdK.lit (sz := 2) eKey_len)
  go_enter Try.func26, Try.ntmps26
  go_wp2_with fail
  have c := kOrd _ [(5, 1), (3, 2), (5, 0)] 3 _ (L.out w 54 [(5, 1), (3, 2), (5, 0)] w.heap.size rfl) (by decide)
  simp only [List.flatMap_cons, List.flatMap_nil, List.append_nil, eKey, List.cons_append, List.nil_append, List.length_cons, List.length_nil, Nat.zero_add, Nat.reduceAdd, ow1, ow6] at c
  refine c.mono ?_
  rintro e w1 ⟨a1, c1, rfl, _, hown1, hb1⟩
  have R1 : Hid (Rd eNat w1 a1 [1, 2, 0]) := by
    obtain ⟨a9, c9, h9, _, _, hr⟩ := Rd.of_owns (l := [1, 2, 0]) hown1
    cases h9
    exact hr
  have B1 : Below w.heap.size w w1 := ((Below.refl _ _).alloc (Nat.le_refl _) _).trans (hb1.mono (by simp))
  clear c hown1 hb1
  go_wp2_with fail
  have BL : Below w.heap.size w ((w1.alloc (.cells #[.int .i64 1, .int .u32 1, .int .i64 4, .int .u32 1] 54)).alloc (.cells #[.int .i64 1, .int .u32 1, .int .i64 2, .int .u32 9] 54)) := (B1.alloc B1.size _).alloc (by have := B1.size; simp; omega) _
  have c := kMergeYes _ _ [(1, 1), (4, 1)] [(1, 1), (2, 9)] 2 2 _ ((L.out w1 54 [(1, 1), (4, 1)] w1.heap.size rfl).below ((Below.refl _ _).alloc (Nat.le_refl _) _)) (L.out (w1.alloc (.cells #[.int .i64 1, .int .u32 1, .int .i64 4, .int .u32 1] 54)) 54 [(1, 1), (2, 9)] (w1.heap.size + 1) (by simp)) (by decide) (by decide) (by rw [ow3, ow4]; rfl)
  simp only [List.flatMap_cons, List.flatMap_nil, List.append_nil, eKey, List.cons_append, List.nil_append, List.length_cons, List.length_nil, Nat.zero_add, Nat.reduceAdd, ow2] at c
  refine c.mono ?_
  rintro e w2 ⟨v2, rfl, hown2, hb2⟩
  obtain ⟨a2, c2, rfl, _, _, hr2⟩ := Rd.of_owns (l := [0, 2, 3, 1]) hown2
  have B2 := bl BL (hb2.mono (by simp))
  have R1' := Lib.hid (R1.out.below ((((Below.refl _ _).alloc (Nat.le_refl _) _).alloc (by simp) _).trans (hb2.mono (by simp; omega))))
  have R2 := Lib.hid hr2
  clear c hown2 hr2 hb2 BL R1
  go_wp2_with fail
  have c := kMergeNo _ none [(2, 1), (1, 1)] [] 2 0 _ (L.out w2 54 [(2, 1), (1, 1)] w2.heap.size rfl) .nil (by decide) (by decide) (by rw [ow5]; rfl)
  simp only [List.flatMap_cons, List.flatMap_nil, List.append_nil, eKey, List.cons_append, List.nil_append, List.length_cons, List.length_nil, Nat.zero_add, Nat.reduceAdd] at c
  refine c.mono ?_
  rintro e w3 ⟨rfl, hb3⟩
  have B3 : Below w.heap.size w w3 := bl B2 (((Below.refl _ _).alloc (Nat.le_refl _) _).trans (hb3.mono (by simp)))
  have R1 := Lib.hid (R1'.out.below (((Below.refl _ _).alloc (Nat.le_refl _) _).trans (hb3.mono (by simp))))
  have R2' := Lib.hid (R2.out.below (((Below.refl _ _).alloc (Nat.le_refl _) _).trans (hb3.mono (by simp))))
  clear c R1' R2 hb3
  go_wp2_with fail
  have c := same_ints _ _ (ints [1, 2, 0]) [1, 2, 0] c1 3 _ ((Rd_ints R1.out).below ((Below.refl _ _).alloc (Nat.le_refl _) _)) (Rd.lit (enc := Value.int .i64) w3 3 [1, 2, 0] _ rfl) (by decide) (by decide)
  rw [show decide (ints [1, 2, 0] = [1, 2, 0]) = true from rfl] at c
  simp only [ints_len, List.map_cons, List.map_nil, List.length_cons, List.length_nil, Nat.zero_add, Nat.reduceAdd] at c
  refine c.mono ?_
  rintro e w4 ⟨rfl, hb4⟩
  have B4 : Below w.heap.size w w4 := bl B3 (((Below.refl _ _).alloc (Nat.le_refl _) _).trans (hb4.mono (by simp)))
  have R2 := Lib.hid (R2'.out.below (((Below.refl _ _).alloc (Nat.le_refl _) _).trans (hb4.mono (by simp))))
  clear c R1 R2' hb4
  go_wp2_with fail
  have c := same_ints _ _ (ints [0, 2, 3, 1]) [0, 2, 3, 1] c2 4 _ ((Rd_ints R2.out).below ((Below.refl _ _).alloc (Nat.le_refl _) _)) (Rd.lit (enc := Value.int .i64) w4 3 [0, 2, 3, 1] _ rfl) (by decide) (by decide)
  rw [show decide (ints [0, 2, 3, 1] = [0, 2, 3, 1]) = true from rfl] at c
  simp only [ints_len, List.map_cons, List.map_nil, List.length_cons, List.length_nil, Nat.zero_add, Nat.reduceAdd] at c
  refine c.mono ?_
  rintro e w5 ⟨rfl, hb5⟩
  have B5 : Below w.heap.size w w5 := bl B4 (((Below.refl _ _).alloc (Nat.le_refl _) _).trans (hb5.mono (by simp)))
  clear c R2 hb5
  go_wp2_with fail
  have c := once313 _ _ (Rd.lit (enc := Value.int .u32) w5 52 [3, 1, 3] _ rfl) 3
  simp only [List.map_cons, List.map_nil] at c
  refine c.mono ?_
  rintro e w6 ⟨v6, rfl, hown6, hb6⟩
  obtain ⟨a6, c6, rfl, _, _, hr6⟩ := Rd.of_owns (l := [1, 3]) (enc := Value.int .u32) hown6
  have B6 : Below w.heap.size w w6 := bl B5 (((Below.refl _ _).alloc (Nat.le_refl _) _).trans (hb6.mono (by simp)))
  have R6 := Lib.hid hr6
  clear c hown6 hr6 hb6
  go_wp2_with fail
  have c := same_names _ _ [1, 3] [1, 3] c6 2 _ (R6.out.below ((Below.refl _ _).alloc (Nat.le_refl _) _)) (Rd.lit (enc := Value.int .u32) w6 52 [1, 3] _ rfl) (by decide) (by decide)
  rw [show decide (([1, 3] : List Int) = [1, 3]) = true from rfl] at c
  simp only [List.map_cons, List.map_nil, List.length_cons, List.length_nil, Nat.zero_add, Nat.reduceAdd] at c
  refine c.mono ?_
  rintro e w7 ⟨rfl, hb7⟩
  go_wp2_with fail
  go_ret
  exact ⟨rfl, bl B6 (((Below.refl _ _).alloc (Nat.le_refl _) _).trans (hb7.mono (by simp)))⟩

end Go.Proofs.Ytlhmipjbpbbcbaa
