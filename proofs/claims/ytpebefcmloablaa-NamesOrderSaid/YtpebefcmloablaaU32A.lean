/- slices.Sort at uint32: cmp.Less and insertionSortOrdered: the functional text Sort.insertionSort of the library's own is what is computed. -/
import Derived.Test.YtpebefcmloablaaOwn
import Derived.Test.YtpebefcmloablaaShelf
import Derived.WalkSpells
import Derived.Sort.WalkA
namespace Go.Proofs.Ytpebefcmloablaa
open Go.RowKit Go.Sort

theorem less32 (x y : Int) (w : World) : Calls Try.prog 92 #[.int .u32 x, .int .u32 y] w fun e w' => e = .returned (.bool (ltInt x y)) ∧ w' = w := by
  by_cases h : x < y
  · rw [show ltInt x y = true by simp [ltInt, h]]
    go_enter Try.func92, Try.ntmps92
    go_wp2
    go_ret
    exact ⟨ret_bool (by first | rfl | (simp; done) | (simp [h]; done)), rfl⟩
  · rw [show ltInt x y = false by simp [ltInt, h]]
    go_enter Try.func92, Try.ntmps92
    go_wp2
    go_ret
    exact ⟨ret_bool (by first | rfl | (simp; done) | (simp [h]; done)), rfl⟩

abbrev e32 : Int → Value := Value.int .u32

set_option maxRecDepth 100000 in
set_option maxHeartbeats 4000000 in
theorem ins32 (blk off cap a b : Nat) (d : Array Int) (w : World) (hH : Holds (Value.int .u32) w blk off d) (hab : a ≤ b) (hb : b ≤ d.size) (hsz : d.size < 4611686018427387904) :
    Calls Try.prog 86 #[.slice (some ⟨blk, off, none⟩) d.size cap, .int .i64 a, .int .i64 b] w fun e w' =>
      e = .returned (.tuple #[]) ∧ ∃ n, w' = putRow (Value.int .u32) (Sort.ahead w n) blk off (Sort.insertionSort ltInt d a b) := by
  have HH := Lib.hid hH
  have CL := Lib.hid less32
  clear hH
  go_enter Try.func86, Try.ntmps86
  go_wp2
  go_loopw [6] (fun vi wr => ∃ (i n : Nat) (dk : Array Int), vi = .int .i64 i ∧ a < i ∧ i ≤ b + 1 ∧ Hid (dk.size = d.size) ∧ Hid (wr = putRow (Value.int .u32) (Sort.ahead w n) blk off dk) ∧
      Hid (insOuter ltInt a b i dk = insOuter ltInt a b (a + 1) d)) (fun vi _ => b + 1 - (intOf vi).toNat)
  case atStart => exact ⟨a + 1, 0, d, by go_num, by omega, by omega, rfl, (putRow_self _ _ _ _ _ HH.out).symm, rfl⟩
  case round =>
    obtain ⟨i, n, dk, rfl, hai, hib, hsk, hwr, HO⟩ := hrel
    by_cases hlt : i < b
    · obtain ⟨wo, ewo⟩ : ∃ wo : World, wo = wr := ⟨_, rfl⟩
      subst ewo
      go_wp2
      go_loopw [7] (fun vj wr2 => ∃ (j m : Nat) (dj : Array Int), vj = .int .i64 j ∧ a ≤ j ∧ j ≤ i ∧ Hid (dj.size = d.size) ∧ Hid (wr2 = putRow (Value.int .u32) (Sort.ahead w m) blk off dj) ∧
          Hid (insInner ltInt a j dj = insInner ltInt a i dk)) (fun vj _ => (intOf vj).toNat)
      case atStart => exact ⟨i, n, dk, rfl, by omega, Nat.le_refl _, hsk, hwr, rfl⟩
      case round =>
        obtain ⟨j, m, dj, rfl, haj, hji, hsj, hw2, HI⟩ := hrel
        obtain ⟨G, hG⟩ : ∃ G : Nat → Int, ∀ t, G t = dj[t]! := ⟨fun t => dj[t]!, fun _ => rfl⟩
        have HG := Lib.hid hG
        clear hG
        have hjd : j < d.size := by omega
        have hcw : ∀ t, t < d.size → wr.cell? ⟨blk, off + t, none⟩ = some (.int .u32 (G t)) := fun t ht => by
          rw [hw2.out, HG.out]; exact cell?_putRow _ _ _ _ d dj (holds_ahead _ _ _ _ _ _ HH.out) hsj.out t (by rw [hsj.out]; exact ht)
        have hfw : ∀ t, t < d.size → wr.frozen? ⟨blk, off + t, none⟩ = false := fun t ht => by
          rw [hw2.out, frozen?_putRow]; exact ((holds_ahead _ _ m _ _ _ HH.out) t ht).2
        have hj0 : (0 : Int) ≤ (j : Int) := by omega
        have hj1 : (j : Int) < (d.size : Int) := by omega
        have x0 := hcw j hjd
        have f0 := hfw j hjd
        by_cases hja : a < j
        · have x1 := hcw (j - 1) (by omega)
          have f1 := hfw (j - 1) (by omega)
          have e1 : ((j : Int) - 1).toNat = j - 1 := by omega
          have hj2 : (0 : Int) ≤ (j : Int) - 1 := by omega
          have hj3 : (j : Int) - 1 < (d.size : Int) := by omega
          have hj4 : (1 : Int) ≤ (j : Int) := by omega
          clear hcw hfw
          cases hl : ltInt (G j) (G (j - 1)) with
          | true =>
            have HL := Lib.hid hl
            have C := CL.out (G j) (G (j - 1))
            rw [hl] at C
            have CC := Lib.hid C
            clear hl C
            go_wp2
            have V1 : IntKind.i64.wrap ((j : Int) - 1) = (j : Int) - 1 := IntWalk.i64_in _ (by omega)
            go_quiet ((go_at_call 92; exact Calls.quiet_of_same (CC.out _)))
            clear V1
            go_wp2
            go_region
            all_goals go_wp2
            all_goals go_roundw
            case rel => exact ⟨j - 1, m + (nq + 1), swp dj j (j - 1), by go_num, by omega, by omega, by show _ = _; rw [size_swp]; exact hsj.out, by
              show _ = _
              rw [hw2.out, HG.out, HG.out]
              exact swap_worldA _ w m (nq + 1) blk off dj j (j - 1) (by rw [hsj.out]; omega) (by rw [hsj.out]; omega), by
              show _ = _
              rw [← HI.out, insInner_go ltInt a j dj hja (by rw [← HG.out, ← HG.out]; exact HL.out)]⟩
            case measure => simp [intOf]; omega
          | false =>
            have HL := Lib.hid hl
            have C := CL.out (G j) (G (j - 1))
            rw [hl] at C
            have CC := Lib.hid C
            clear hl C
            go_wp2
            have V1 : IntKind.i64.wrap ((j : Int) - 1) = (j : Int) - 1 := IntWalk.i64_in _ (by omega)
            go_quiet ((go_at_call 92; exact Calls.quiet_of_same (CC.out _)))
            clear V1
            go_wp2
            go_roundw
            case rel => exact ⟨i + 1, m + nq, dj, by go_num, by omega, by omega, hsj, by show _ = _; rw [hw2.out]; exact putRow_drewN _ _ _ _ _ _ _, by show _ = _; rw [← HO.out, insOuter_go _ _ _ _ _ hlt, ← HI.out, insInner_stop _ _ _ _ (Or.inr (by rw [← HG.out, ← HG.out]; exact HL.out))]⟩
            case measure => simp [intOf]; omega
        · have hd : decide ((a : Int) < (j : Int)) = false := by simp; omega
          clear hcw hfw
          go_wp2
          go_quiet (fail)
          go_wp2
          go_roundw
          case rel => exact ⟨i + 1, m + nq, dj, by go_num, by omega, by omega, hsj, by show _ = _; rw [hw2.out]; exact putRow_drewN _ _ _ _ _ _ _, by show _ = _; rw [← HO.out, insOuter_go _ _ _ _ _ hlt, ← HI.out, insInner_stop _ _ _ _ (Or.inl (by omega))]⟩
          case measure => simp [intOf]; omega
    · go_wp2
      go_end0
      exact ⟨rfl, n, by rw [hwr.out]; unfold Sort.insertionSort; rw [← HO.out, insOuter_stop _ _ _ _ _ hlt]⟩

end Go.Proofs.Ytpebefcmloablaa
