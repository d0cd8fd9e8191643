/- slices.Sort at uint32, whole: what the row holds is the sorted list (for a seat without the Sort texts). -/
import Derived.Test.YtpebefcmloablaaU32G
import Derived.Test.YtpebefcmloablaaU32H
import Derived.Test.YtpebefcmloablaaU32I
import Derived.Test.YtpebefcmloablaaU32K
import Derived.Test.YtpebefcmloablaaU32N
import Derived.Test.YtpebefcmloablaaU32O
import Derived.Test.YtpebefcmloablaaSortB
import Derived.Test.YtpebefcmloablaaShelf
import Derived.Lib.Hide
import Derived.Sort.AssemblyPlain
namespace Go.Proofs.Ytpebefcmloablaa
open Go.RowKit Go.Sort

theorem callees32 : Callees32 where
  ins := ins32
  brk := brk32
  piv := choose32
  par := partial32
  peq := partEq32
  prt := part32

theorem plain32 : Plain13 where
  swo := swo_ltInt
  ins := insertionSort_holds
  par := partialInsertionSort_holds
  prt := partition_holds _
  peq := partitionEqual_holds _
  pdq := pdq_sorts _

set_option maxRecDepth 100000 in
theorem sort32_arr (blk off cap : Nat) (d : Array Int) (w : World) (hH : Holds (Value.int .u32) w blk off d) (hblk : blk < w.heap.size) (hsz : d.size < 4611686018427387904) :
    Calls Try.prog 55 #[.slice (some ⟨blk, off, none⟩) d.size cap] w fun e w' => e = .returned (.tuple #[]) ∧ ∃ n os, w' = grow (putRow (Value.int .u32) (Sort.ahead w n) blk off (Sort.sort ltInt d)) os := by
  have hLen : ∀ w, Calls Try.prog 47 #[.int .u64 (d.size : Int)] w fun e w' => e = .returned (.int .i64 (bitsLen d.size : Nat)) ∧ w' = w := fun w => by
    have h := Try.bits_Len (d.size : Int) w (by omega) (by omega)
    rwa [Int.toNat_natCast, bitLen_eq _ (by omega)] at h
  have hk : bitsLen d.size ≤ 62 := (bitsLen_le_iff d.size 62).2 (by omega)
  have hp := Lib.hid (pdq32 callees32 plain32 (d.size + 1) blk off cap 0 d.size (bitsLen d.size) d w (by omega) hH hblk (Nat.zero_le _) (Nat.le_refl _) hsz (by omega) (Or.inl rfl))
  have hL := Lib.hid hLen
  clear hH hLen
  go_enter Try.func55, Try.ntmps55
  go_wp2_with fail
  refine (hL.out _).mono ?_
  rintro e w' ⟨rfl, rfl⟩
  go_wp2_with fail
  refine hp.out.mono ?_
  rintro e w' ⟨rfl, n, os, rfl⟩
  go_wp2
  go_end0
  exact ⟨rfl, n, os, rfl⟩

theorem sort_u32_eq (zs : List Int) : Sort.sort ltInt zs.toArray = (zs.mergeSort fun x y => decide (x ≤ y)).toArray := by
  rw [← sortInt zs]

theorem sort32 (blk off cap : Nat) (zs : List Int) (w : World) (hH : Holds (Value.int .u32) w blk off zs.toArray) (hblk : blk < w.heap.size) (hsz : zs.length < 4611686018427387904) :
    Calls Try.prog 55 #[.slice (some ⟨blk, off, none⟩) zs.length cap] w fun e w' =>
      e = .returned (.tuple #[]) ∧ ∃ n os, w' = grow (putRow (Value.int .u32) (Sort.ahead w n) blk off (zs.mergeSort fun x y => decide (x ≤ y)).toArray) os := by
  have h := sort32_arr blk off cap zs.toArray w hH hblk (by simpa using hsz)
  rw [sort_u32_eq] at h
  simpa using h

set_option maxRecDepth 100000 in
theorem ins32_none (p : Option Addr) (cap : Nat) (w : World) :
    Calls Try.prog 86 #[.slice p 0 cap, .int .i64 0, .int .i64 0] w fun e w' => e = .returned (.tuple #[]) ∧ w' = w := by
  go_enter Try.func86, Try.ntmps86
  go_wp2
  refine wp_loop_rounds 1 ?_
  rw [rounds_succ]
  go_wp2
  go_end0
  exact ⟨rfl, rfl⟩

set_option maxRecDepth 100000 in
set_option maxHeartbeats 1000000 in
theorem sort32_none (p : Option Addr) (cap : Nat) (w : World) :
    Calls Try.prog 55 #[.slice p 0 cap] w fun e w' => e = .returned (.tuple #[]) ∧ w' = w := by
  have L := Lib.hid (fun W => Try.bits_Len 0 W (by decide) (by decide))
  have II := Lib.hid (ins32_none p cap)
  go_enter Try.func55, Try.ntmps55
  go_wp2_with (first | (go_at_call 47; refine (L.out _).mono ?_; rintro e w' ⟨rfl, rfl⟩) | go_in)
  refine wp_loop_rounds 1 ?_
  rw [rounds_succ]
  go_wp2_with (first | (go_at_call 86; refine (II.out _).mono ?_; rintro e w2 ⟨rfl, rfl⟩) | go_in)
  refine bodyPost_ret (results_none rfl _ _ _) rfl ?_
  go_wp2
  go_end0
  exact ⟨rfl, rfl⟩

end Go.Proofs.Ytpebefcmloablaa
