/- rank.Log: what it answers (for a seat without the Rank texts). -/
import Derived.Test.YtpebefcmloablaaOwn
import Derived.Test.YtpebefcmloablaaShelf
import Derived.WalkSpells
import Derived.Lib.ItoaNum
namespace Go.Proofs.Ytpebefcmloablaa
open Go.RowKit

def rkLog (n : Int) : Nat := if n < 2 then 0 else Lib.bitLen (n - 1).toNat

set_option maxHeartbeats 400000 in
theorem rLog (n : Int) (w : World) (h1 : n ≤ 9223372036854775807) :
    Calls Try.prog 27 #[.int .i64 n] w fun e w' => e = .returned (.int .i64 (rkLog n)) ∧ Below w.heap.size w w' := by
  unfold rkLog
  by_cases h : n < 2
  · rw [if_pos h]
    go_enter Try.func27, Try.ntmps27
    go_wp2
    go_ret
    exact ⟨rfl, Below.refl _ _⟩
  · rw [if_neg h]
    have hc := Try.bits_Len (n - 1) w (by omega) (by omega)
    generalize Lib.bitLen (n - 1).toNat = r at *
    replace hc := Lib.hid hc
    go_enter Try.func27, Try.ntmps27
    go_wp2_with (go_at_call 47; refine hc.out.mono ?_; rintro e w' ⟨rfl, rfl⟩)
    go_ret
    exact ⟨rfl, Below.refl _ _⟩

theorem bitLen_pos_bounds (x : Nat) (h : x < 2 ^ 64) (h0 : x ≠ 0) : 1 ≤ Lib.bitLen x ∧ 2 ^ (Lib.bitLen x - 1) ≤ x ∧ x < 2 ^ Lib.bitLen x := Lib.bitLenAux_bounds 64 x h h0

theorem bitLen_zero : Lib.bitLen 0 = 0 := rfl

theorem bitLen_mono {a b : Nat} (hab : a ≤ b) (h : b < 2 ^ 64) : Lib.bitLen a ≤ Lib.bitLen b := by
  by_cases h0 : a = 0
  · subst h0; rw [bitLen_zero]; exact Nat.zero_le _
  · have ha := bitLen_pos_bounds a (by omega) h0
    have hb := bitLen_pos_bounds b h (by omega)
    have := (Nat.pow_lt_pow_iff_right (by decide : 1 < 2)).1 (Nat.lt_of_le_of_lt ha.2.1 (Nat.lt_of_le_of_lt hab hb.2.2))
    omega


theorem rkLog_succ (n : Nat) (h : n < 2 ^ 62) : rkLog ((n : Int) + 1) = Lib.bitLen n := by
  unfold rkLog
  by_cases h0 : n = 0
  · subst h0; rfl
  · rw [if_neg (by omega)]
    congr 1
    omega

/-- half of it, or less, is a bit shorter -/
theorem bitLen_less {d e : Nat} (hd : 0 < d) (h : d < 2 ^ 62) (he : e ≤ d / 2) : Lib.bitLen e + 1 ≤ Lib.bitLen d := by
  have e1 : Lib.bitLen d = 1 + Lib.bitLen (d / 2) := Lib.bitLen_half _ (by omega) (by omega)
  have e2 := bitLen_mono he (by omega)
  omega

end Go.Proofs.Ytpebefcmloablaa
