/- Plain facts on binary search: nothing of the program stands here. -/
import Derived.Test.YtlhmipjbpbbcbaaBase
namespace Go.Proofs.Ytlhmipjbpbbcbaa
/-- binary search with its count of looks -/
def bsrch (p : Nat → Bool) : Nat → Nat → Nat → Nat → Nat × Nat
  | 0, lo, _, k => (lo, k)
  | f + 1, lo, hi, k => if lo < hi then (if p (lo + (hi - lo) / 2) then bsrch p f lo (lo + (hi - lo) / 2) (k + 1) else bsrch p f (lo + (hi - lo) / 2 + 1) hi (k + 1)) else (lo, k)

theorem bsrch_fuel (p : Nat → Bool) : ∀ (f g lo hi k : Nat), hi - lo ≤ f → hi - lo ≤ g → bsrch p f lo hi k = bsrch p g lo hi k := by
  intro f
  induction f with
  | zero => intro g lo hi k h1 h2; cases g with
    | zero => rfl
    | succ g => simp [bsrch, show ¬ lo < hi by omega]
  | succ f ih => intro g lo hi k h1 h2; cases g with
    | zero => simp [bsrch, show ¬ lo < hi by omega]
    | succ g =>
      simp only [bsrch]
      by_cases h : lo < hi
      · rw [if_pos h, if_pos h]
        rw [ih g _ _ _ (by omega) (by omega), ih g _ _ _ (by omega) (by omega)]
      · rw [if_neg h, if_neg h]

theorem bsrch_looked (p : Nat → Bool) : ∀ (f lo hi k : Nat), hi - lo ≤ f → (bsrch p f lo hi k).2 ≤ k + (hi - lo) ∧ (lo ≤ hi → lo ≤ (bsrch p f lo hi k).1 ∧ (bsrch p f lo hi k).1 ≤ hi) := by
  intro f
  induction f with
  | zero => intro lo hi k h1; simp [bsrch]
  | succ f ih =>
    intro lo hi k h1
    simp only [bsrch]
    by_cases h : lo < hi
    · rw [if_pos h]
      split
      · have := ih lo (lo + (hi - lo) / 2) (k + 1) (by omega)
        omega
      · have := ih (lo + (hi - lo) / 2 + 1) hi (k + 1) (by omega)
        omega
    · rw [if_neg h]; simp


def rkFirst (l : List Int) (x : Int) : Nat × Nat := bsrch (fun i => decide (x ≤ l.getD i 0)) l.length 0 l.length 0
def rkAbove (l : List Int) (x : Int) : Nat × Nat := bsrch (fun i => decide (x < l.getD i 0)) l.length 0 l.length 0
end Go.Proofs.Ytlhmipjbpbbcbaa
