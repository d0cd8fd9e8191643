/- names.New: a directory without names. -/
import Derived.Test.YtpebefcmloablaaNmA
namespace Go.Proofs.Ytpebefcmloablaa
open Go.RowKit Go.Maps
set_option linter.unusedSimpArgs false
set_option linter.unusedVariables false

theorem nmRep_new (W : World) : NmRep ((W.alloc (.cells #[.bool true, .slice none 0 0, .int .i64 0, .int .i64 0] 105)).alloc (.cells #[.pointer (some ⟨W.heap.size, 0, none⟩), .slice none 0 0, .slice none 0 0, .slice none 0 0, .int .i64 0] 72)) W.heap.size (W.heap.size + 1) W.heap.size (.slice none 0 0) (.slice none 0 0) (.slice none 0 0) (.slice none 0 0) [] [] [] [] 0 0 0 where
  hb := Nat.le_succ _
  blk := by
    have := World.alloc_heap_new (W.alloc (.cells #[.bool true, .slice none 0 0, .int .i64 0, .int .i64 0] 105)) (.cells #[.pointer (some ⟨W.heap.size, 0, none⟩), .slice none 0 0, .slice none 0 0, .slice none 0 0, .int .i64 0] 72)
    rw [show (W.alloc (.cells #[.bool true, .slice none 0 0, .int .i64 0, .int .i64 0] 105)).heap.size = W.heap.size + 1 by simp] at this
    exact this
  car := ⟨Nat.le_refl _, by
    have h1 := World.alloc_heap_new W (.cells #[.bool true, .slice none 0 0, .int .i64 0, .int .i64 0] 105)
    exact (Below.heap_alloc _ _ _ (by simp)).trans h1, World.ownsRow_nil _ _ _ _⟩
  brow := World.ownsRow_nil _ _ _ _
  prow := World.ownsRow_nil _ _ _ _
  arow := World.ownsRow_nil _ _ _ _
  bE := fun h hh => by cases hh
  cE := fun h hh => by cases hh
  sep := .inl rfl

theorem nmWF_new : NmWF [] [] [] [] 0 0 where
  len := rfl
  sorted := fun l hl => by cases hl
  perm := ⟨rfl, fun i h => by cases h⟩
  ids := List.nodup_nil
  nums := fun x hx => by cases hx
  numsN := List.nodup_nil
  live := fun k hk => by cases hk
  cnt := rfl
  stored := rfl
  most := by decide
  bound := Nat.zero_le _
  small := Nat.zero_le _
  size := fun i h => by cases h
  last := fun i h => by cases h

set_option maxRecDepth 100000 in
set_option maxHeartbeats 1000000 in
theorem nm_New (W : World) : Calls Try.prog 28 #[] W fun e w' => e = .returned (.pointer (some ⟨W.heap.size + 1, 0, none⟩)) ∧ NmRep w' W.heap.size (W.heap.size + 1) W.heap.size (.slice none 0 0) (.slice none 0 0) (.slice none 0 0) (.slice none 0 0) [] [] [] [] 0 0 0 ∧ Below W.heap.size W w' := by
  have H := Lib.hid (nmRep_new W)
  have HB : Hid (Below W.heap.size W ((W.alloc (.cells #[.bool true, .slice none 0 0, .int .i64 0, .int .i64 0] 105)).alloc (.cells #[.pointer (some ⟨W.heap.size, 0, none⟩), .slice none 0 0, .slice none 0 0, .slice none 0 0, .int .i64 0] 72))) := ((Below.refl _ _).alloc (Nat.le_refl _) _).alloc (by simp) _
  go_enter Try.func28, Try.ntmps28
  go_wp2
  go_ret
  exact ⟨rfl, H.out, HB.out⟩

end Go.Proofs.Ytpebefcmloablaa
