/- slices.Sort at uint32, whole: what the row holds is the sorted list; and sort.Once at any list. -/
import Derived.Test.YtlhmipjbpbbcbaaU32G
import Derived.Test.YtlhmipjbpbbcbaaU32H
import Derived.Test.YtlhmipjbpbbcbaaU32I
import Derived.Test.YtlhmipjbpbbcbaaU32K
import Derived.Test.YtlhmipjbpbbcbaaU32N
import Derived.Test.YtlhmipjbpbbcbaaU32O
import Derived.Test.YtlhmipjbpbbcbaaKeyT
import Derived.Sort.AssemblyPlain
namespace Go.Proofs.Ytlhmipjbpbbcbaa
open Go.RowKit Go.Sort

theorem callees32 : Callees32 where
  ins := ins32
  brk := brk32
  piv := choose32
  par := partial32
  peq := partEq32
  prt := part32

theorem plain32 : Plain13 where
  swo := swo_ltInt
  ins := insertionSort_holds
  par := partialInsertionSort_holds
  prt := partition_holds _
  peq := partitionEqual_holds _
  pdq := pdq_sorts _

set_option maxRecDepth 100000 in
theorem sort32_arr (blk off cap : Nat) (d : Array Int) (w : World) (hH : Holds (Value.int .u32) w blk off d) (hblk : blk < w.heap.size) (hsz : d.size < 4611686018427387904) :
    Calls Try.prog 59 #[.slice (some ⟨blk, off, none⟩) d.size cap] w fun e w' => e = .returned (.tuple #[]) ∧ ∃ n os, w' = grow (putRow (Value.int .u32) (Sort.ahead w n) blk off (Sort.sort ltInt d)) os := by
  have hLen : ∀ w, Calls Try.prog 47 #[.int .u64 (d.size : Int)] w fun e w' => e = .returned (.int .i64 (bitsLen d.size : Nat)) ∧ w' = w := fun w => by
    have h := Try.bits_Len (d.size : Int) w (by omega) (by omega)
    rwa [Int.toNat_natCast, bitLen_eq _ (by omega)] at h
  have hk : bitsLen d.size ≤ 62 := (bitsLen_le_iff d.size 62).2 (by omega)
  have hp := Lib.hid (pdq32 callees32 plain32 (d.size + 1) blk off cap 0 d.size (bitsLen d.size) d w (by omega) hH hblk (Nat.zero_le _) (Nat.le_refl _) hsz (by omega) (Or.inl rfl))
  have hL := Lib.hid hLen
  clear hH hLen
  go_enter Try.func59, Try.ntmps59
  go_wp2_with fail
  refine (hL.out _).mono ?_
  rintro e w' ⟨rfl, rfl⟩
  go_wp2_with fail
  refine hp.out.mono ?_
  rintro e w' ⟨rfl, n, os, rfl⟩
  go_wp2
  go_end0
  exact ⟨rfl, n, os, rfl⟩

theorem sort_u32_eq (zs : List Int) : Sort.sort ltInt zs.toArray = (zs.mergeSort fun x y => decide (x ≤ y)).toArray := by
  rw [← sortInt zs]

theorem sort32 (blk off cap : Nat) (zs : List Int) (w : World) (hH : Holds (Value.int .u32) w blk off zs.toArray) (hblk : blk < w.heap.size) (hsz : zs.length < 4611686018427387904) :
    Calls Try.prog 59 #[.slice (some ⟨blk, off, none⟩) zs.length cap] w fun e w' =>
      e = .returned (.tuple #[]) ∧ ∃ n os, w' = grow (putRow (Value.int .u32) (Sort.ahead w n) blk off (zs.mergeSort fun x y => decide (x ≤ y)).toArray) os := by
  have h := sort32_arr blk off cap zs.toArray w hH hblk (by simpa using hsz)
  rw [sort_u32_eq] at h
  simpa using h

set_option maxRecDepth 100000 in
theorem ins32_none (p : Option Addr) (cap : Nat) (w : World) :
    Calls Try.prog 82 #[.slice p 0 cap, .int .i64 0, .int .i64 0] w fun e w' => e = .returned (.tuple #[]) ∧ w' = w := by
  go_enter Try.func82, Try.ntmps82
  go_wp2
  refine wp_loop_rounds 1 ?_
  rw [rounds_succ]
  go_wp2
  go_end0
  exact ⟨rfl, rfl⟩

set_option maxRecDepth 100000 in
set_option maxHeartbeats 1000000 in
theorem sort32_none (p : Option Addr) (cap : Nat) (w : World) :
    Calls Try.prog 59 #[.slice p 0 cap] w fun e w' => e = .returned (.tuple #[]) ∧ w' = w := by
  have L := Lib.hid (fun W => Try.bits_Len 0 W (by decide) (by decide))
  have II := Lib.hid (ins32_none p cap)
  go_enter Try.func59, Try.ntmps59
  go_wp2_with (first | (go_at_call 47; refine (L.out _).mono ?_; rintro e w' ⟨rfl, rfl⟩) | go_in)
  refine wp_loop_rounds 1 ?_
  rw [rounds_succ]
  go_wp2_with (first | (go_at_call 82; refine (II.out _).mono ?_; rintro e w2 ⟨rfl, rfl⟩) | go_in)
  refine bodyPost_ret (results_none rfl _ _ _) rfl ?_
  go_wp2
  go_end0
  exact ⟨rfl, rfl⟩

set_option maxHeartbeats 400000 in
theorem onceAny (a : Option Addr) (l : List Int) (c : Nat) (w : World) (h : Rd (.int .u32) w a l) (hl : l.length ≤ 1000000) :
    Calls Try.prog 35 #[.slice a l.length c] w fun e w' => ∃ v, e = .returned v ∧ w'.ownsRow w.heap.size 52 1 v (sqz l).length ((sqz l).map (.int .u32)) ∧ Below w.heap.size w w' := by
  have c1 := Lib.hid (cloneNames a l c w h hl)
  clear h
  generalize hsq : sqz l = sq
  have HSQ := Lib.hid hsq
  clear hsq
  go_enter Try.func35, Try.ntmps35
  go_wp2_with fail
  refine c1.out.mono ?_
  rintro e w1 ⟨v1, rfl, hown, hb1⟩
  obtain ⟨_, hown⟩ := hown
  rcases hown with ⟨rfl, hl0⟩ | ⟨g, cap, cur, rfl, hg, hh, hcc, hm, hs, htk⟩
  · obtain rfl : l = [] := List.eq_nil_of_length_eq_zero hl0
    have e0 : sq = [] := by rw [← HSQ.out]; simp [sqz, Lib.compactUpTo]
    subst e0
    have c2 := Lib.hid (sort32_none none 0 w1)
    clear c1
    go_wp2_with (first | (go_at_call 59; refine c2.out.mono ?_; rintro e w' ⟨rfl, rfl⟩) | go_in)
    go_ret
    exact ⟨_, rfl, World.ownsRow_nil _ _ _ _, hb1⟩
  · rw [Nat.mul_one] at hs htk
    have hlt := (Array.getElem?_eq_some_iff.1 hh).1
    have c2 := Lib.hid (sort32 g 0 cap l w1 (holds_of_block hh htk) hlt (by omega))
    have hm' : Hid (cap ≤ maxLen) := hm
    have hh' := Lib.hid hh
    have htk' := Lib.hid htk
    have hs' := Lib.hid hs
    clear hm hh htk hs c1
    go_wp2_with fail
    refine c2.out.mono ?_
    rintro e w2 ⟨rfl, q, os, rfl⟩
    obtain ⟨cur2, hh2, hs2, htk2, hown2⟩ := owns_putRow (l' := l.mergeSort fun x y => decide (x ≤ y)) hg hh'.out hcc hm'.out hs'.out (List.length_mergeSort l) q os
    have hbel2 := grow_below (Value.int .u32) w.heap.size w1 q g (l.mergeSort fun x y => decide (x ≤ y)).toArray os hg hb1.size
    generalize Sort.grow (Sort.putRow (Value.int .u32) (Sort.ahead w1 q) g 0 (l.mergeSort fun x y => decide (x ≤ y)).toArray) os = w2 at *
    have hlen : (l.mergeSort fun x y => decide (x ≤ y)).length = l.length := List.length_mergeSort l
    have c3 := Try.slices_Compact_f60 (Value.int .u32) (fun _ => rfl) (EqlAt.intD _ _ .u32) (NeqAt.intD _ _ .u32) 0 Try.zeroValue52 g 0 cap (l.mergeSort fun x y => decide (x ≤ y)).toArray w2 (holds_of_block hh2 htk2) (by simp; omega) (by simp; omega)
    rw [show (l.mergeSort fun x y => decide (x ≤ y)).toArray.size = l.length by simp] at c3
    replace c3 := Lib.hid c3
    clear c2 hown2
    have hh2' := Lib.hid hh2
    have htk2' := Lib.hid htk2
    have hs2' := Lib.hid hs2
    have hlen' := Lib.hid hlen
    clear hh2 htk2 hs2 hlen
    go_wp2_with fail
    refine c3.out.mono ?_
    rintro e w3 ⟨rfl, q3, rfl⟩
    clear c3
    go_wp2_with fail
    go_ret
    have hcl : (Lib.compactUpTo (l.mergeSort fun x y => decide (x ≤ y)).toArray l.length).length ≤ l.length := by
      unfold Lib.compactUpTo
      rw [List.length_map]
      exact Nat.le_trans (List.length_filter_le _ _) (by simp)
    have es : sq = Lib.compactUpTo (l.mergeSort fun x y => decide (x ≤ y)).toArray l.length := by rw [← HSQ.out]; unfold sqz; rw [show (l.mergeSort fun x y => decide (x ≤ y)).toArray.size = l.length by simp]
    clear HSQ
    subst es
    generalize Lib.compactUpTo (l.mergeSort fun x y => decide (x ≤ y)).toArray l.length = cl at *
    obtain ⟨cur3, hh3, hs3, htk3, hown3⟩ := owns_putRow (l := l) (enc := Value.int .u32) (l' := cl ++ List.replicate (l.length - cl.length) 0) hg hh2'.out hcc hm'.out hs2'.out (by simp; omega) q3 #[]
    have hbel3 := grow_below (Value.int .u32) w.heap.size w2 q3 g (cl ++ List.replicate (l.length - cl.length) 0).toArray #[] hg (Nat.le_trans hb1.size hbel2.size)
    rw [Sort.grow_empty] at hbel3 hh3 hown3
    exact ⟨_, rfl, owns_prefix hg hh3 htk3 (by have := hcc; simp; omega) hm'.out hs3, (hb1.trans hbel2).trans hbel3⟩
end Go.Proofs.Ytlhmipjbpbbcbaa

