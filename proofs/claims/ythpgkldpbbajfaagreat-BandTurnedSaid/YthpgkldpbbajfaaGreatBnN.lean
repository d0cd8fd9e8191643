/- A band that is none: what it reports. -/
import Derived.Test.YthpgkldpbbajfaaGreatBnC
namespace Go.Proofs.YthpgkldpbbajfaaGreat
open Go.RowKit Go.Sort Go.Shelf Go.Lib Go.Maps
set_option linter.unusedSimpArgs false
set_option linter.unusedVariables false

set_option maxRecDepth 100000 in
set_option maxHeartbeats 4000000 in
theorem band_each_nil (F : Nat) (cb : Array Value) (W : World) (x1 x2 y1 y2 bi : Int) :
    Calls Tryz.prog 77 #[.pointer none, .agg #[.int .i64 x1, .int .i64 x2, .int .i64 y1, .int .i64 y2, .int .u32 bi], .func (.func F) #[] cb] W fun e w' => e = .returned (.int .i64 0) ∧ Below W.heap.size W w' := by
  obtain ⟨w1, ew1⟩ : ∃ w1, w1 = W.alloc (.cells #[.int .i64 x1, .int .i64 x2, .int .i64 y1, .int .i64 y2, .int .u32 bi] 51) := ⟨_, rfl⟩
  have hb1 : Below W.heap.size W w1 := by rw [ew1]; exact (Below.refl _ _).alloc (Nat.le_refl _) _
  have CN := band_none_nil w1
  have HB1 := Lib.hid hb1
  clear hb1
  go_enter Tryz.func77, Tryz.ntmps77
  go_wp2_with fail
  rw [← ew1]
  clear ew1
  refine CN.mono ?_
  rintro e w' ⟨rfl, rfl⟩
  go_wp2
  go_ret
  exact ⟨rfl, HB1.out⟩

set_option maxRecDepth 100000 in
set_option maxHeartbeats 4000000 in
theorem band_report_nil (w : World) (x1 x2 y1 y2 bi : Int) :
    Calls Tryz.prog 28 #[.pointer none, .agg #[.int .i64 x1, .int .i64 x2, .int .i64 y1, .int .i64 y2, .int .u32 bi]] w fun e w' => e = .returned (.tuple #[.slice none 0 0, .int .i64 0]) ∧ Below w.heap.size w w' := by
  obtain ⟨w1, ew1⟩ : ∃ w1, w1 = (w.alloc (.cells #[.int .i64 x1, .int .i64 x2, .int .i64 y1, .int .i64 y2, .int .u32 bi] 51)).alloc (.cells #[.slice none 0 0] 35) := ⟨_, rfl⟩
  have hb1 : Below w.heap.size w w1 := by rw [ew1]; exact ((Below.refl _ _).alloc (Nat.le_refl _) _).alloc (by simp) _
  have ho1 : w1.heap[w.heap.size + 1]? = some (.cells #[.slice none 0 0] 35 (0, 0)) := by rw [ew1]; exact lit2 w _ _
  have hx1 : w1.heap[w.heap.size]? = some (.cells #[.int .i64 x1, .int .i64 x2, .int .i64 y1, .int .i64 y2, .int .u32 bi] 51 (0, 0)) := by rw [ew1]; exact lit1 w _ _
  have HCA := Lib.hid (band_each_nil 78 #[.pointer (some ⟨w.heap.size, 0, none⟩), .pointer (some ⟨w.heap.size + 1, 0, none⟩)] w1 x1 x2 y1 y2 bi)
  have c0 : w1.cell? ⟨w.heap.size, 0, none⟩ = some (.int .i64 x1) := by simp [World.cell?, hx1]
  have c1 : w1.cell? ⟨w.heap.size, 1, none⟩ = some (.int .i64 x2) := by simp [World.cell?, hx1]
  have c2 : w1.cell? ⟨w.heap.size, 2, none⟩ = some (.int .i64 y1) := by simp [World.cell?, hx1]
  have c3 : w1.cell? ⟨w.heap.size, 3, none⟩ = some (.int .i64 y2) := by simp [World.cell?, hx1]
  have c4 : w1.cell? ⟨w.heap.size, 4, none⟩ = some (.int .u32 bi) := by simp [World.cell?, hx1]
  have HB1 := Lib.hid hb1
  have HO1 := Lib.hid ho1
  clear hx1 ho1 hb1
  go_enter Tryz.func28, Tryz.ntmps28
  go_wp2_with fail
  rw [← ew1]
  clear ew1
  refine HCA.out.mono ?_
  rintro e w2 ⟨rfl, hb2⟩
  have ho2 := (hb2.block _ (Array.getElem?_eq_some_iff.1 HO1.out).1).trans HO1.out
  have HB2 := Lib.hid (HB1.out.trans (hb2.mono HB1.out.size))
  have k0 : w2.cell? ⟨w.heap.size + 1, 0, none⟩ = some (.slice none 0 0) := by simp [World.cell?, ho2]
  have hol := (Array.getElem?_eq_some_iff.1 ho2).1
  have CS := Lib.hid (sortU32 (l := []) (World.ownsRow_nil w2 w.heap.size 32 1) (by simp))
  clear hb2 ho2 HCA c0 c1 c2 c3 c4 HO1 HB1
  go_wp2_with fail
  refine CS.out.mono ?_
  rintro e w3 ⟨rfl, -, hK3⟩
  have k3 : w3.cell? ⟨w.heap.size + 1, 0, none⟩ = some (.slice none 0 0) := ((cellK hK3 hol (fun h => by simp [Value.ownBlock] at h)).1 0).trans k0
  have HK3 : Hid (Below w.heap.size w w3) := HB2.out.trans (hK3.toBelow HB2.out.size (fun k h => by simp [Value.ownBlock] at h))
  clear hK3 k0 CS
  go_wp2
  go_ret2
  exact ⟨rfl, HK3.out⟩
end Go.Proofs.YthpgkldpbbajfaaGreat
