/- A directory that is none: its calls, and the law NamesNone. -/
import Derived.Test.YtpebefcmloablaaLog
import Derived.Test.YtpebefcmloablaaPt
namespace Go.Proofs.Ytpebefcmloablaa
open Go.RowKit Go.Maps
set_option linter.unusedSimpArgs false
set_option linter.unusedVariables false

/-- no directory, or one that New did not answer -/
def NoneAt (A : Nat) (W : World) (v : Value) : Prop := v = .pointer none ∨ v = .pointer (some ⟨A, 0, none⟩) ∧ W.cell? ⟨A, 0, none⟩ = some (.pointer none)

set_option maxRecDepth 100000 in
set_option maxHeartbeats 2000000 in
theorem nm_none (A : Nat) (W : World) (v : Value) (h : NoneAt A W v) : Calls Try.prog 49 #[v] W fun e w' => e = .returned (.bool true) ∧ Below W.heap.size W w' := by
  rcases h with rfl | ⟨rfl, hc⟩
  · go_enter Try.func49, Try.ntmps49
    go_wp2
    go_ret
    exact ⟨rfl, Below.refl _ _⟩
  · go_enter Try.func49, Try.ntmps49
    go_wp2
    go_ret
    exact ⟨rfl, Below.refl _ _⟩

set_option maxRecDepth 100000 in
set_option maxHeartbeats 2000000 in
theorem nm_put (A : Nat) (id pl : Int) (W : World) (v : Value) (h : NoneAt A W v) : Calls Try.prog 30 #[v, .int .u32 id, .int .i64 pl] W fun e w' => e = .returned (.int .i64 1) ∧ Below W.heap.size W w' := by
  have C := Lib.hid (nm_none A W v h)
  clear h
  go_enter Try.func30, Try.ntmps30
  go_wp2_with fail
  refine C.out.mono ?_
  rintro e w1 ⟨rfl, hb1⟩
  go_wp2
  go_ret
  exact ⟨rfl, hb1⟩

set_option maxRecDepth 100000 in
set_option maxHeartbeats 2000000 in
theorem nm_find (A : Nat) (id : Int) (W : World) (v : Value) (h : NoneAt A W v) : Calls Try.prog 31 #[v, .int .u32 id] W fun e w' => e = .returned (.tuple #[.int .i64 0, .bool false, .int .i64 0]) ∧ Below W.heap.size W w' := by
  have C := Lib.hid (nm_none A W v h)
  clear h
  go_enter Try.func31, Try.ntmps31
  go_wp2_with fail
  refine C.out.mono ?_
  rintro e w1 ⟨rfl, hb1⟩
  go_wp2
  go_ret3
  exact ⟨rfl, hb1⟩

set_option maxRecDepth 100000 in
set_option maxHeartbeats 2000000 in
theorem nm_drop (A : Nat) (id : Int) (W : World) (v : Value) (h : NoneAt A W v) : Calls Try.prog 32 #[v, .int .u32 id] W fun e w' => e = .returned (.tuple #[.int .i64 0, .bool false]) ∧ Below W.heap.size W w' := by
  have C := Lib.hid (nm_none A W v h)
  clear h
  go_enter Try.func32, Try.ntmps32
  go_wp2_with fail
  refine C.out.mono ?_
  rintro e w1 ⟨rfl, hb1⟩
  go_wp2
  go_ret2
  exact ⟨rfl, hb1⟩

set_option maxRecDepth 100000 in
set_option maxHeartbeats 2000000 in
theorem nm_len (A : Nat) (W : World) (v : Value) (h : NoneAt A W v) : Calls Try.prog 35 #[v] W fun e w' => e = .returned (.int .i64 0) ∧ Below W.heap.size W w' := by
  have C := Lib.hid (nm_none A W v h)
  clear h
  go_enter Try.func35, Try.ntmps35
  go_wp2_with fail
  refine C.out.mono ?_
  rintro e w1 ⟨rfl, hb1⟩
  go_wp2
  go_ret
  exact ⟨rfl, hb1⟩

set_option maxRecDepth 100000 in
set_option maxHeartbeats 2000000 in
theorem nm_stored (A : Nat) (W : World) (v : Value) (h : NoneAt A W v) : Calls Try.prog 37 #[v] W fun e w' => e = .returned (.int .i64 0) ∧ Below W.heap.size W w' := by
  have C := Lib.hid (nm_none A W v h)
  clear h
  go_enter Try.func37, Try.ntmps37
  go_wp2_with fail
  refine C.out.mono ?_
  rintro e w1 ⟨rfl, hb1⟩
  go_wp2
  go_ret
  exact ⟨rfl, hb1⟩

set_option maxRecDepth 100000 in
set_option maxHeartbeats 2000000 in
theorem ins_nil (W : World) : Calls Try.prog 86 #[.slice none 0 0, .int .i64 0, .int .i64 0] W fun e w' => e = .returned (.tuple #[]) ∧ Below W.heap.size W w' := by
  go_enter Try.func86, Try.ntmps86
  go_wp2
  go_loopw [6] (fun iv wr => iv = .int .i64 1 ∧ wr = W) (fun _ _ => 0)
  case atStart => exact ⟨rfl, rfl⟩
  case round =>
    obtain ⟨rfl, rfl⟩ := hrel
    go_wp2
    go_end0
    exact ⟨rfl, Below.refl _ _⟩

set_option maxRecDepth 100000 in
set_option maxHeartbeats 2000000 in
theorem pdq_nil (r : Int) (W : World) : Calls Try.prog 72 #[.slice none 0 0, .int .i64 0, .int .i64 0, .int .i64 r] W fun e w' => e = .returned (.tuple #[]) ∧ Below W.heap.size W w' := by
  have C := Lib.hid (ins_nil W)
  go_enter Try.func72, Try.ntmps72
  go_wp2
  go_loopw [1, 2] (fun av bv wr => av = .int .i64 0 ∧ bv = .int .i64 0 ∧ wr = W) (fun _ _ _ => 0)
  case atStart => exact ⟨rfl, rfl, rfl⟩
  case round =>
    obtain ⟨rfl, rfl, rfl⟩ := hrel
    go_wp2_with fail
    refine C.out.mono ?_
    rintro e w1 ⟨rfl, hb1⟩
    go_wp2
    refine bodyPost_ret (results_none rfl _ _ _) rfl ?_
    exact ⟨rfl, hb1⟩

set_option maxRecDepth 100000 in
set_option maxHeartbeats 2000000 in
theorem sort_nil (W : World) : Calls Try.prog 55 #[.slice none 0 0] W fun e w' => e = .returned (.tuple #[]) ∧ Below W.heap.size W w' := by
  have hc := Try.bits_Len 0 W (by omega) (by omega)
  generalize Lib.bitLen (0 : Int).toNat = r at *
  replace hc := Lib.hid hc
  go_enter Try.func55, Try.ntmps55
  go_wp2_with (go_at_call 47; refine hc.out.mono ?_; rintro e w' ⟨rfl, rfl⟩)
  refine (pdq_nil _ _).mono ?_
  rintro e w2 ⟨rfl, hb2⟩
  go_wp2
  go_end0
  exact ⟨rfl, hb2⟩

set_option maxRecDepth 100000 in
set_option maxHeartbeats 2000000 in
theorem nm_all (A : Nat) (W : World) (v : Value) (h : NoneAt A W v) : Calls Try.prog 34 #[v] W fun e w' => e = .returned (.slice none 0 0) ∧ Below W.heap.size W w' := by
  have C := Lib.hid (nm_none A W v h)
  clear h
  go_enter Try.func34, Try.ntmps34
  go_wp2_with fail
  refine C.out.mono ?_
  rintro e w1 ⟨rfl, hb1⟩
  go_wp2_with fail
  refine (sort_nil w1).mono ?_
  rintro e w2 ⟨rfl, hb2⟩
  go_wp2
  go_ret
  exact ⟨rfl, hb1.trans (hb2.mono hb1.size)⟩

end Go.Proofs.Ytpebefcmloablaa
