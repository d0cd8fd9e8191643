/- Package sort: Once of the three numbers 3, 1, 3. -/
import Derived.Test.YtlhmipjbpbbcbaaU32A
import Derived.Test.YtlhmipjbpbbcbaaRankB
namespace Go.Proofs.Ytlhmipjbpbbcbaa
open Go.RowKit Go.Sort

theorem ins313 : Sort.insertionSort ltInt #[3, 1, 3] 0 3 = #[1, 3, 3] := by
  unfold Sort.insertionSort
  rw [insOuter_go _ _ _ _ _ (by decide), insOuter_go _ _ _ _ _ (by decide), insOuter_stop _ _ _ _ _ (by decide)]
  decide

set_option maxRecDepth 100000 in
set_option maxHeartbeats 4000000 in
theorem sort313 (g cap : Nat) (w : World) (hH : Holds (Value.int .u32) w g 0 #[3, 1, 3]) :
    Calls Try.prog 59 #[.slice (some ⟨g, 0, none⟩) 3 cap] w fun e w' => e = .returned (.tuple #[]) ∧ ∃ q, w' = putRow (Value.int .u32) (Sort.ahead w q) g 0 #[1, 3, 3] := by
  have L := Lib.hid (fun W => Try.bits_Len 3 W (by decide) (by decide))
  have I := ins32 g 0 cap 0 3 #[3, 1, 3] w hH (by decide) (by decide) (by decide)
  rw [ins313] at I
  have II : Hid (Calls Try.prog 82 #[.slice (some ⟨g, 0, none⟩) 3 cap, .int .i64 0, .int .i64 3] w fun e w' => e = .returned (.tuple #[]) ∧ ∃ n, w' = putRow (Value.int .u32) (Sort.ahead w n) g 0 #[1, 3, 3]) := I
  clear I hH
  go_enter Try.func59, Try.ntmps59
  go_wp2_with (first | (go_at_call 47; refine (L.out _).mono ?_; rintro e w' ⟨rfl, rfl⟩) | go_in)
  refine wp_loop_rounds 1 ?_
  rw [rounds_succ]
  go_wp2_with (first | (go_at_call 82; refine II.out.mono ?_; rintro e w2 ⟨rfl, q, rfl⟩) | go_in)
  refine bodyPost_ret (results_none rfl _ _ _) rfl ?_
  go_wp2
  go_end0
  exact ⟨rfl, q, rfl⟩

set_option maxHeartbeats 400000 in
theorem cloneNames (a : Option Addr) (l : List Int) (c : Nat) (w : World) (h : Rd (.int .u32) w a l) (hl : l.length ≤ 1000000) :
    Calls Try.prog 58 #[.slice a l.length c] w fun e w' => ∃ v, e = .returned v ∧ w'.ownsRow w.heap.size 52 1 v l.length (l.map (.int .u32)) ∧ Below w.heap.size w w' := by
  have q22 : ∀ (w : World) (a : Option Addr) (n c n' c' : Nat), (binOp .eql 38 (.slice a n c) (.slice none n' c')).run Try.prog w = .ok (.bool a.isNone) w := fun w a n c n' c' => Lib.run_eql_slice_nil w _ _ a n c n' c' Try.underlying38
  cases a with
  | none =>
    have e0 : l = [] := by
      rcases h with h | ⟨b, off, h, _⟩
      · exact h
      · cases h
    subst e0
    go_enter Try.func58, Try.ntmps58
    go_wp2
    go_ret
    exact ⟨_, rfl, World.ownsRow_nil _ _ _ _, Below.refl _ _⟩
  | some ad =>
    have hown := World.ownsRow_made (e := 52) (size := 1) w #[] 0 (Nat.le_refl _) (Nat.zero_le _) rfl
    have h' : Rd (.int .u32) (w.alloc (.cells #[] 52)) (some ad) l := h.below ((Below.refl _ _).alloc (Nat.le_refl _) _)
    clear h
    go_enter Try.func58, Try.ntmps58
    go_wp2_with (at_builtin; refine wp_appendL elU32 (fun _ => rfl) w.heap.size hown h' rfl _ _ rfl rfl c rfl (by unfold maxLen; omega) (by omega) (by simp) ?_; intro v' w' hown' hg)
    go_ret
    rw [Nat.zero_add, List.nil_append] at hown'
    exact ⟨_, rfl, hown', below_grown ((Below.refl _ _).alloc (Nat.le_refl _) _) hown hg (by simp) (Nat.le_refl _)⟩

set_option maxHeartbeats 400000 in
theorem once313 (a : Option Addr) (w : World) (h : Rd (.int .u32) w a [3, 1, 3]) (c : Nat) :
    Calls Try.prog 35 #[.slice a 3 c] w fun e w' => ∃ v, e = .returned v ∧ w'.ownsRow w.heap.size 52 1 v 2 ([1, 3].map (.int .u32)) ∧ Below w.heap.size w w' := by
  have c1 := Lib.hid (cloneNames a [3, 1, 3] c w h (by decide))
  clear h
  go_enter Try.func35, Try.ntmps35
  go_wp2_with fail
  refine c1.out.mono ?_
  rintro e w1 ⟨v1, rfl, hown, hb1⟩
  obtain ⟨_, hown⟩ := hown
  rcases hown with ⟨rfl, hl0⟩ | ⟨g, cap, cur, rfl, hg, hh, hcc, hm, hs, htk⟩
  · simp at hl0
  · rw [Nat.mul_one] at hs htk
    have c2 := Lib.hid (sort313 g cap w1 (holds_of_block (l := [3, 1, 3]) hh htk))
    have hm' : Hid (cap ≤ maxLen) := hm
    have hh' := Lib.hid hh
    have hs' := Lib.hid hs
    have hcc' : 3 ≤ cap := hcc
    clear hm hh htk hs c1 hcc
    go_wp2_with fail
    refine c2.out.mono ?_
    rintro e w2 ⟨rfl, q, rfl⟩
    obtain ⟨cur2, hh2, hs2, htk2, _⟩ := owns_putRow (l := [3, 1, 3]) (l' := [1, 3, 3]) (enc := Value.int .u32) hg hh'.out hcc' hm'.out hs'.out rfl q #[]
    have hbel2 := grow_below (Value.int .u32) w.heap.size w1 q g ([1, 3, 3] : List Int).toArray #[] hg hb1.size
    rw [Sort.grow_empty] at hbel2 hh2
    change Below w.heap.size w1 (putRow (Value.int .u32) (Sort.ahead w1 q) g 0 #[1, 3, 3]) at hbel2
    change (putRow (Value.int .u32) (Sort.ahead w1 q) g 0 #[1, 3, 3]).heap[g]? = _ at hh2
    generalize putRow (Value.int .u32) (Sort.ahead w1 q) g 0 #[1, 3, 3] = w2 at *
    have c3 := Try.slices_Compact_f60 (Value.int .u32) (fun _ => rfl) (EqlAt.intD _ _ .u32) (NeqAt.intD _ _ .u32) 0 Try.zeroValue52 g 0 cap #[1, 3, 3] w2 (holds_of_block (l := [1, 3, 3]) hh2 htk2) (by decide) hcc'
    rw [show Lib.compactUpTo (#[1, 3, 3] : Array Int) (#[1, 3, 3] : Array Int).size = [1, 3] by decide] at c3
    have c4 : Hid (Calls Try.prog 60 #[.slice (some ⟨g, 0, none⟩) 3 cap] w2 fun e w' => e = .returned (.slice (some ⟨g, 0, none⟩) 2 cap) ∧ ∃ q, w' = putRow (Value.int .u32) (Sort.ahead w2 q) g 0 ([1, 3] ++ [0] : List Int).toArray) := c3
    clear c3 c2
    have hh2' := Lib.hid hh2
    have hs2' := Lib.hid hs2
    clear hh2 htk2 hs2
    go_wp2_with fail
    refine c4.out.mono ?_
    rintro e w3 ⟨rfl, q3, rfl⟩
    clear c4
    go_wp2_with fail
    go_ret
    obtain ⟨cur3, hh3, hs3, htk3, _⟩ := owns_putRow (l := [1, 3, 3]) (enc := Value.int .u32) (l' := [1, 3] ++ [0]) hg hh2'.out hcc' hm'.out hs2'.out rfl q3 #[]
    have hbel3 := grow_below (Value.int .u32) w.heap.size w2 q3 g ([1, 3] ++ [0] : List Int).toArray #[] hg (Nat.le_trans hb1.size hbel2.size)
    rw [Sort.grow_empty] at hbel3 hh3
    exact ⟨_, rfl, owns_prefix hg hh3 htk3 hcc' hm'.out hs3, (hb1.trans hbel2).trans hbel3⟩

end Go.Proofs.Ytlhmipjbpbbcbaa
