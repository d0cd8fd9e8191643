/- Plain facts on binary search and on how often 1 is doubled. -/
import Derived.Test.YtlhmipjbpbbcbaaRankAwW
namespace Go.Proofs.Ytlhmipjbpbbcbaa

theorem bitLen_pos_bounds (x : Nat) (h : x < 2 ^ 64) (h0 : x ≠ 0) : 1 ≤ Lib.bitLen x ∧ 2 ^ (Lib.bitLen x - 1) ≤ x ∧ x < 2 ^ Lib.bitLen x := Lib.bitLenAux_bounds 64 x h h0

theorem bitLen_zero : Lib.bitLen 0 = 0 := rfl

theorem bitLen_mono {a b : Nat} (hab : a ≤ b) (h : b < 2 ^ 64) : Lib.bitLen a ≤ Lib.bitLen b := by
  by_cases h0 : a = 0
  · subst h0; rw [bitLen_zero]; exact Nat.zero_le _
  · have ha := bitLen_pos_bounds a (by omega) h0
    have hb := bitLen_pos_bounds b h (by omega)
    have := pow_mono_lt (Nat.lt_of_le_of_lt ha.2.1 (Nat.lt_of_le_of_lt hab hb.2.2))
    omega

/-- so many are looked at -/
theorem bsrch_count (p : Nat → Bool) : ∀ (f lo hi k : Nat), hi - lo ≤ f → hi - lo < 1000000 →
    k + (Lib.bitLen (hi - lo + 1) - 1) ≤ (bsrch p f lo hi k).2 ∧ (bsrch p f lo hi k).2 ≤ k + Lib.bitLen (hi - lo) := by
  intro f
  induction f with
  | zero =>
    intro lo hi k h1 _
    simp only [bsrch]
    rw [show hi - lo = 0 by omega]
    have e : Lib.bitLen (0 + 1) = 1 := by decide
    rw [e]; omega
  | succ f ih =>
    intro lo hi k h1 h2
    simp only [bsrch]
    by_cases h : lo < hi
    · rw [if_pos h]
      have e1 : Lib.bitLen (hi - lo) = 1 + Lib.bitLen ((hi - lo) / 2) := Lib.bitLen_half _ (by omega) (by omega)
      have e2 : Lib.bitLen (hi - lo + 1) = 1 + Lib.bitLen ((hi - lo + 1) / 2) := Lib.bitLen_half _ (by omega) (by omega)
      have e3 : 1 ≤ Lib.bitLen ((hi - lo + 1) / 2) := (bitLen_pos_bounds _ (by omega) (by omega)).1
      split
      · have := ih lo (lo + (hi - lo) / 2) (k + 1) (by omega) (by omega)
        rw [show lo + (hi - lo) / 2 - lo = (hi - lo) / 2 by omega] at this
        have e4 : Lib.bitLen ((hi - lo + 1) / 2) ≤ Lib.bitLen ((hi - lo) / 2 + 1) := bitLen_mono (by omega) (by omega)
        omega
      · have := ih (lo + (hi - lo) / 2 + 1) hi (k + 1) (by omega) (by omega)
        rw [show hi - (lo + (hi - lo) / 2 + 1) + 1 = (hi - lo + 1) / 2 by omega] at this
        have e4 : Lib.bitLen (hi - (lo + (hi - lo) / 2 + 1)) ≤ Lib.bitLen ((hi - lo) / 2) := bitLen_mono (by omega) (by omega)
        omega
    · rw [if_neg h]
      rw [show hi - lo = 0 by omega]
      have e : Lib.bitLen (0 + 1) = 1 := by decide
      rw [e]; simp

theorem looked_facts (p : Nat → Bool) (n : Nat) (hn : n ≤ 2000) (r : Nat × Nat) (hr : bsrch p n 0 n 0 = r) :
    r.1 ≤ n ∧ r.2 ≤ rkLog ((n : Int) + 1) ∧ rkLog ((n : Int) + 1) ≤ r.2 + 1 ∧ (n = 0 → r.2 = 0) ∧ rkLog ((n : Int) + 1) ≤ 100 := by
  subst hr
  have h1 := bsrch_count p n 0 n 0 (by omega) (by omega)
  have h2 := (bsrch_looked p n 0 n 0 (by omega))
  rw [Nat.sub_zero] at h1
  by_cases h0 : n = 0
  · subst h0
    simp [rkLog] at *
    omega
  · have e : rkLog ((n : Int) + 1) = Lib.bitLen n := by
      unfold rkLog
      rw [if_neg (by omega)]
      congr 1
      omega
    rw [e]
    have e4 : Lib.bitLen n ≤ Lib.bitLen (n + 1) := bitLen_mono (by omega) (by omega)
    have e5 : Lib.bitLen n ≤ Lib.bitLen 2000 := bitLen_mono hn (by omega)
    have e6 : Lib.bitLen 2000 = 11 := by decide
    have e7 := h2.2 (Nat.zero_le _)
    omega

/-- where what is looked for begins -/
theorem bsrch_place (p : Nat → Bool) (n : Nat) (hp : ∀ i j, i ≤ j → j < n → p i = true → p j = true) : ∀ (f lo hi k : Nat), hi - lo ≤ f → lo ≤ hi → hi ≤ n → (∀ t, t < lo → p t = false) → (∀ t, hi ≤ t → t < n → p t = true) →
    (bsrch p f lo hi k).1 ≤ n ∧ (∀ t, t < (bsrch p f lo hi k).1 → p t = false) ∧ (∀ t, (bsrch p f lo hi k).1 ≤ t → t < n → p t = true) := by
  intro f
  induction f with
  | zero =>
    intro lo hi k h1 h2 h3 h4 h5
    simp only [bsrch]
    obtain rfl : hi = lo := by omega
    exact ⟨h3, h4, h5⟩
  | succ f ih =>
    intro lo hi k h1 h2 h3 h4 h5
    simp only [bsrch]
    by_cases h : lo < hi
    · rw [if_pos h]
      by_cases hm : p (lo + (hi - lo) / 2) = true
      · rw [if_pos hm]
        exact ih _ _ _ (by omega) (by omega) (by omega) h4 (fun t ht htn => hp _ t ht htn hm)
      · rw [if_neg hm]
        refine ih _ _ _ (by omega) (by omega) h3 (fun t ht => ?_) h5
        cases hpt : p t with
        | false => rfl
        | true => exact absurd (hp t _ (by omega) (by omega) hpt) hm
    · rw [if_neg h]
      obtain rfl : hi = lo := by omega
      exact ⟨h3, h4, h5⟩

theorem rkLog_facts (n : Int) (h2 : 2 ≤ n) (h1 : n ≤ 9223372036854775807) : 1 ≤ rkLog n ∧ rkLog n ≤ 63 ∧ n ≤ (2 ^ rkLog n : Nat) ∧ ((2 ^ (rkLog n - 1) : Nat) : Int) < n := by
  obtain ⟨m, rfl⟩ : ∃ m : Nat, n = m := ⟨n.toNat, by omega⟩
  unfold rkLog
  rw [if_neg (by omega)]
  have hb := bitLen_pos_bounds ((m : Int) - 1).toNat (by omega) (by omega)
  generalize hx : ((m : Int) - 1).toNat = x at *
  generalize Lib.bitLen x = q at *
  obtain ⟨h3, h4, h5⟩ := hb
  have h6 : q - 1 < 63 := pow_mono_lt (Nat.lt_of_le_of_lt h4 (show x < 2 ^ 63 by omega))
  omega

theorem rkLog_twice (n : Int) (h2 : 2 ≤ n) (h1 : n ≤ 2305843009213693952) : rkLog (2 * n) = rkLog n + 1 := by
  obtain ⟨h3, h4, h5, h6⟩ := rkLog_facts n h2 (by omega)
  refine rkLog_of (2 * n) (rkLog n + 1) (by omega) (by omega) ?_ (.inr ?_)
  · rw [Nat.pow_succ]; omega
  · rw [Nat.add_sub_cancel]
    have : 2 ^ rkLog n = 2 * 2 ^ (rkLog n - 1) := by rw [← Nat.pow_succ']; congr 1; omega
    omega

end Go.Proofs.Ytlhmipjbpbbcbaa
