/- Keys, and which of two stands ahead: cmp.Compare, cmp.Or, order, ahead. -/
import Derived.Test.YtlhmipjbpbbcbaaStr
import Derived.StillTailTactics
namespace Go.Proofs.Ytlhmipjbpbbcbaa
open Go.RowKit

/-- a key as its two cells -/
def eKey (k : Int × Int) : List Value := [.int .i64 k.1, .int .u32 k.2]
theorem eKey_len (k : Int × Int) : (eKey k).length = 2 := rfl
theorem eKey_one (k : Int × Int) : ∀ u ∈ eKey k, u.oneCell' = true := by
  intro u hu
  simp [eKey] at hu
  rcases hu with rfl | rfl <;> rfl

def cmpI (x y : Int) : Int := if x < y then -1 else if y < x then 1 else 0

theorem cmpI_bd (x y : Int) : -1 ≤ cmpI x y ∧ cmpI x y ≤ 1 := by unfold cmpI; split <;> (try split) <;> omega

/-- how two keys stand -/
def ordK (a b : Int × Int) : Int := if cmpI a.1 b.1 = 0 then cmpI a.2 b.2 else cmpI a.1 b.1

theorem cmpLong (x y : Int) (w : World) : Calls Try.prog 67 #[.int .i64 x, .int .i64 y] w fun e w' => e = .returned (.int .i64 (cmpI x y)) ∧ w' = w := by
  unfold cmpI
  rcases Int.lt_trichotomy x y with h | rfl | h
  · rw [if_pos h]
    go_enter Try.func67, Try.ntmps67
    go_wp2
    go_ret
    exact ⟨rfl, rfl⟩
  · rw [if_neg (Int.lt_irrefl _), if_neg (Int.lt_irrefl _)]
    go_enter Try.func67, Try.ntmps67
    go_wp2
    go_ret
    exact ⟨rfl, rfl⟩
  · rw [if_neg (by omega), if_pos h]
    have h2 : y ≤ x := by omega
    go_enter Try.func67, Try.ntmps67
    go_wp2
    go_ret
    exact ⟨rfl, rfl⟩

theorem cmpName (x y : Int) (w : World) : Calls Try.prog 68 #[.int .u32 x, .int .u32 y] w fun e w' => e = .returned (.int .i64 (cmpI x y)) ∧ w' = w := by
  unfold cmpI
  rcases Int.lt_trichotomy x y with h | rfl | h
  · rw [if_pos h]
    go_enter Try.func68, Try.ntmps68
    go_wp2
    go_ret
    exact ⟨rfl, rfl⟩
  · rw [if_neg (Int.lt_irrefl _), if_neg (Int.lt_irrefl _)]
    go_enter Try.func68, Try.ntmps68
    go_wp2
    go_ret
    exact ⟨rfl, rfl⟩
  · rw [if_neg (by omega), if_pos h]
    have h2 : y ≤ x := by omega
    go_enter Try.func68, Try.ntmps68
    go_wp2
    go_ret
    exact ⟨rfl, rfl⟩


set_option maxHeartbeats 400000 in
theorem cmpOr (a b : Int) (w : World) (n : Nat) (h0 : w.cell? ⟨n, 0, none⟩ = some (.int .i64 a)) (h1 : w.cell? ⟨n, 1, none⟩ = some (.int .i64 b)) :
    Calls Try.prog 66 #[.slice (some ⟨n, 0, none⟩) 2 2] w fun e w' => e = .returned (.int .i64 (if a = 0 then b else a)) ∧ w' = w := by
  by_cases ha : a = 0
  · subst ha
    rw [if_pos rfl]
    by_cases hb : b = 0
    · subst hb
      go_enter Try.func66, Try.ntmps66
      go_wp2
      go_loopw [8] (fun i wr => ∃ k : Nat, i = .int .i64 k ∧ k ≤ 2 ∧ wr = w) (fun i _ => 2 - (intOf i).toNat)
      case atStart => exact ⟨0, rfl, by omega, rfl⟩
      case round =>
        obtain ⟨k, rfl, hk, rfl⟩ := hrel
        by_cases h2 : k < 2
        · have hc : wr.cell? ⟨n, k, none⟩ = some (.int .i64 0) := by
            obtain rfl | rfl : k = 0 ∨ k = 1 := by omega
            · exact h0
            · exact h1
          clear h0 h1
          go_wp2
          go_roundw
          case rel => exact ⟨k + 1, by go_num, by omega, by first | rfl | trivial⟩
          case measure => simp [intOf]; omega
        · go_wp2
          go_ret
          exact ⟨rfl, rfl⟩
    · have hd : (b != 0) = true := by simp [hb]
      go_enter Try.func66, Try.ntmps66
      go_wp2
      go_loopw [8] (fun i wr => ∃ k : Nat, i = .int .i64 k ∧ k ≤ 1 ∧ wr = w) (fun i _ => 2 - (intOf i).toNat)
      case atStart => exact ⟨0, rfl, by omega, rfl⟩
      case round =>
        obtain ⟨k, rfl, hk, rfl⟩ := hrel
        by_cases h2 : k < 1
        · obtain rfl : k = 0 := by omega
          clear h1
          go_wp2
          go_roundw
          case rel => exact ⟨1, by go_num, by omega, by first | rfl | trivial⟩
          case measure => simp [intOf]
        · obtain rfl : k = 1 := by omega
          go_wp2
          go_ret
          exact ⟨rfl, rfl⟩
  · rw [if_neg ha]
    have hd : (a != 0) = true := by simp [ha]
    go_enter Try.func66, Try.ntmps66
    go_wp2
    go_loopw [8] (fun i wr => i = .int .i64 0 ∧ wr = w) (fun i _ => 2 - (intOf i).toNat)
    case atStart => exact ⟨rfl, rfl⟩
    case round =>
      obtain ⟨rfl, rfl⟩ := hrel
      go_wp2
      go_ret
      exact ⟨rfl, rfl⟩

set_option maxRecDepth 100000 in
set_option maxHeartbeats 1000000 in
theorem kOrder (a b : Int × Int) (w : World) :
    Calls Try.prog 54 #[.agg #[.int .i64 a.1, .int .u32 a.2], .agg #[.int .i64 b.1, .int .u32 b.2]] w fun e w' => e = .returned (.int .i64 (ordK a b)) ∧ Below w.heap.size w w' := by
  obtain ⟨a1, a2⟩ := a
  obtain ⟨b1, b2⟩ := b
  show Calls _ _ _ _ fun e w' => e = .returned (.int .i64 (if cmpI a1 b1 = 0 then cmpI a2 b2 else cmpI a1 b1)) ∧ _
  have C1 := Lib.hid (fun W => cmpLong a1 b1 W)
  have C2 := Lib.hid (fun W => cmpName a2 b2 W)
  generalize cmpI a1 b1 = p at *
  generalize cmpI a2 b2 = q at *
  go_enter Try.func54, Try.ntmps54
  go_wp2
  refine wp_region_still_tail 10 (by kernel_rfl) (by kernel_rfl) ?_
  simp only [List.take_succ_cons, List.take_zero, List.drop_succ_cons, List.drop_zero]
  change wpStill _ _ (World.drew ((w.alloc (.cells #[.int .i64 a1, .int .u32 a2] 54)).alloc (.cells #[.int .i64 b1, .int .u32 b2] 54))) _ _ _
  repeat still_step
  still_call (C1.out _)
  repeat still_step
  still_call (C2.out _)
  refine wpStill_nil ?_
  change wpList _ _ _ _ _ (World.drew ((w.alloc (.cells #[.int .i64 a1, .int .u32 a2] 54)).alloc (.cells #[.int .i64 b1, .int .u32 b2] 54)))
  have B0 : Below w.heap.size w ((w.alloc (.cells #[.int .i64 a1, .int .u32 a2] 54)).alloc (.cells #[.int .i64 b1, .int .u32 b2] 54)).drew := (((Below.refl _ _).alloc (Nat.le_refl _) _).alloc (by simp) _).drew
  generalize World.drew ((w.alloc (.cells #[.int .i64 a1, .int .u32 a2] 54)).alloc (.cells #[.int .i64 b1, .int .u32 b2] 54)) = w2 at *
  clear C1 C2
  go_wp2_with fail
  refine (cmpOr p q _ w2.heap.size (by simp) (by simp)).mono ?_
  rintro e w3 ⟨rfl, rfl⟩
  go_wp2
  all_goals
    go_ret
    exact ⟨rfl, B0.alloc B0.size _⟩

set_option maxHeartbeats 1000000 in
theorem kAhead (a b : Int × Int) (w : World) :
    Calls Try.prog 65 #[.agg #[.int .i64 a.1, .int .u32 a.2], .agg #[.int .i64 b.1, .int .u32 b.2]] w fun e w' => e = .returned (.bool (decide (ordK a b < 0))) ∧ Below w.heap.size w w' := by
  obtain ⟨a1, a2⟩ := a
  obtain ⟨b1, b2⟩ := b
  show Calls _ _ _ _ fun e w' => e = .returned (.bool (decide ((if cmpI a1 b1 = 0 then cmpI a2 b2 else cmpI a1 b1) < 0))) ∧ _
  unfold cmpI
  rcases Int.lt_trichotomy a1 b1 with h1 | rfl | h1
  · go_enter Try.func65, Try.ntmps65
    go_wp2
    go_ret
    exact ⟨ret_bool (by first | rfl | (simp; done) | (simp [h1]; done)), ((Below.refl _ _).alloc (Nat.le_refl _) _).alloc (by simp) _⟩
  · rcases Int.lt_trichotomy a2 b2 with h2 | rfl | h2
    all_goals
      go_enter Try.func65, Try.ntmps65
      go_wp2
      go_ret
      exact ⟨ret_bool (by first | rfl | (simp; done) | (simp [h2]; done) | (simp [h2]; omega)), ((Below.refl _ _).alloc (Nat.le_refl _) _).alloc (by simp) _⟩
  · have hd : decide (a1 < b1) = false := by simp; omega
    have hd2 : (a1 == b1) = false := by simp; omega
    go_enter Try.func65, Try.ntmps65
    go_wp2
    go_ret
    exact ⟨ret_bool (by first | rfl | (simp; done) | (simp [h1]; done) | (simp [h1]; omega)), ((Below.refl _ _).alloc (Nat.le_refl _) _).alloc (by simp) _⟩

end Go.Proofs.Ytlhmipjbpbbcbaa
