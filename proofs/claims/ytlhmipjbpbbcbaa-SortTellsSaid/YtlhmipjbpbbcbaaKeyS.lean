/- Plain laws of chapter 3's orders: keys put in order rise; two lists put in order and merged are both together put in order. -/
import Derived.Test.YtlhmipjbpbbcbaaKeyR
namespace Go.Proofs.Ytlhmipjbpbbcbaa
open Go.RowKit

/-- the keys in their order -/
def putK (l : List (Int × Int)) : List (Int × Int) := (ordL l).map fun i => l.getD i (0, 0)

theorem putK_len (l : List (Int × Int)) : (putK l).length = l.length := by simp [putK, ordL_len]

theorem aheadP_anti {kf : Nat → Int × Int} {p q : Nat} (h : aheadP kf p q) (h2 : aheadP kf q p) : p = q := by
  rw [aheadP_iff] at *
  omega

theorem ordL_ahead (l : List (Int × Int)) : (ordL l).Pairwise (aheadP fun i => l.getD i (0, 0)) :=
  srtF_ahead (fun i => l.getD i (0, 0)) l.length (List.range l.length) (by simp) List.pairwise_lt_range

/-- there is one order alone -/
theorem ahead_once {kf : Nat → Int × Int} {A B : List Nat} (hA : A.Pairwise (aheadP kf)) (hB : B.Pairwise (aheadP kf)) (h : A.Perm B) : A = B :=
  List.Perm.eq_of_pairwise (fun _ _ _ _ h1 h2 => aheadP_anti h1 h2) hA hB h

theorem putK_get (l : List (Int × Int)) (i : Nat) (h : i < l.length) : (putK l)[i]'(by rw [putK_len]; exact h) = l.getD ((ordL l)[i]'(by rw [ordL_len]; exact h)) (0, 0) := by
  simp [putK]

/-- in order: one behind the other -/
theorem putK_rises (l : List (Int × Int)) (i j : Nat) (hij : i < j) (hj : j < l.length) : aheadP (fun i => (putK l).getD i (0, 0)) i j := by
  have h := List.pairwise_iff_getElem.1 (ordL_ahead l) i j (by rw [ordL_len]; omega) (by rw [ordL_len]; omega) hij
  have e1 : (putK l).getD i (0, 0) = l.getD ((ordL l)[i]'(by rw [ordL_len]; omega)) (0, 0) := by
    rw [List.getD_eq_getElem?_getD, List.getElem?_eq_getElem (by rw [putK_len]; omega), Option.getD_some, putK_get]
    omega
  have e2 : (putK l).getD j (0, 0) = l.getD ((ordL l)[j]'(by rw [ordL_len]; omega)) (0, 0) := by
    rw [List.getD_eq_getElem?_getD, List.getElem?_eq_getElem (by rw [putK_len]; omega), Option.getD_some, putK_get]
    omega
  rw [aheadP_iff] at h ⊢
  rw [e1, e2]
  omega

theorem riseK_ahead (l : List (Int × Int)) : riseK l = true ↔ ∀ i, i + 1 < l.length → aheadP (fun i => l.getD i (0, 0)) i (i + 1) := by
  rw [riseK_iff]
  refine forall_congr' fun i => forall_congr' fun h => ?_
  rw [aheadP_iff]
  simp only [List.getD_eq_getElem?_getD, List.getElem?_eq_getElem h, List.getElem?_eq_getElem (show i < l.length by omega), Option.getD_some]
  have := ordK_lt l[i + 1] l[i]
  constructor
  · intro h0
    have h1 : ¬ ordK l[i + 1] l[i] < 0 := by omega
    rw [this] at h1
    omega
  · intro h0
    have h1 : ¬ (l[i + 1].1 < l[i].1 ∨ l[i + 1].1 = l[i].1 ∧ l[i + 1].2 < l[i].2) := by omega
    rw [← this] at h1
    omega

theorem putK_riseK (l : List (Int × Int)) : riseK (putK l) = true := by
  rw [riseK_ahead]
  intro i hi
  rw [putK_len] at hi
  exact putK_rises l i (i + 1) (by omega) hi

theorem range_ahead {kf : Nat → Int × Int} (s : Nat) : ∀ (n : Nat), (∀ i, s ≤ i → i + 1 < s + n → aheadP kf i (i + 1)) → (List.range' s n).Pairwise (aheadP kf)
  | n, h => by
    rw [List.pairwise_iff_getElem]
    intro i j hi hj hij
    simp only [List.length_range'] at hi hj
    simp only [List.getElem_range', Nat.one_mul]
    obtain ⟨d, rfl⟩ : ∃ d, j = i + 1 + d := ⟨j - (i + 1), by omega⟩
    clear hij
    induction d with
    | zero => exact h (s + i) (by omega) (by omega)
    | succ d ih =>
      have h1 := ih (by omega) (by omega)
      have h2 := h (s + (i + 1 + d)) (by omega) (by omega)
      exact aheadP_trans h1 (by rw [show s + (i + 1 + (d + 1)) = s + (i + 1 + d) + 1 by omega]; exact h2)

theorem ordL_of_rise (l : List (Int × Int)) (h : riseK l = true) : ordL l = List.range l.length := by
  rw [riseK_ahead] at h
  refine ahead_once (ordL_ahead l) ?_ (ordL_perm l)
  rw [List.range_eq_range']
  exact range_ahead 0 l.length (fun i _ hi => h i (by omega))

/-- a list is in its order just if it rises -/
theorem putK_eq (l : List (Int × Int)) : putK l = l ↔ riseK l = true := by
  constructor
  · intro h
    have := putK_riseK l
    rwa [h] at this
  · intro h
    unfold putK
    rw [ordL_of_rise l h]
    apply List.ext_getElem
    · simp
    · intro i h1 h2
      simp [h2]

theorem ordL_putK_append (x y : List (Int × Int)) (hx : riseK x = true) (hy : riseK y = true) : mrgL x y = ordL (x ++ y) := by
  have hA : (List.range x.length).Pairwise (aheadP fun i => (x ++ y).getD i (0, 0)) := by
    rw [List.range_eq_range']
    refine range_ahead 0 _ (fun i _ hi => ?_)
    have := (riseK_ahead x).1 hx i (by omega)
    rw [aheadP_iff] at this ⊢
    simpa only [List.getD_eq_getElem?_getD, List.getElem?_append_left (show i < x.length by omega), List.getElem?_append_left (show i + 1 < x.length by omega)] using this
  have hB : (List.range' x.length y.length).Pairwise (aheadP fun i => (x ++ y).getD i (0, 0)) := by
    refine range_ahead x.length _ (fun i h0 hi => ?_)
    obtain ⟨d, rfl⟩ : ∃ d, i = x.length + d := ⟨i - x.length, by omega⟩
    have := (riseK_ahead y).1 hy d (by omega)
    rw [aheadP_iff] at this ⊢
    simp only [List.getD_eq_getElem?_getD, List.getElem?_append_right (show x.length ≤ x.length + d by omega), List.getElem?_append_right (show x.length ≤ x.length + d + 1 by omega)]
    simp only [List.getD_eq_getElem?_getD] at this
    rw [show x.length + d - x.length = d by omega, show x.length + d + 1 - x.length = d + 1 by omega]
    omega
  refine ahead_once (merge_ahead _ _ _ hA hB (fun a ha b hb => ?_)) (ordL_ahead _) ?_
  · simp at ha hb
    omega
  · refine (List.merge_perm_append _).trans ?_
    refine List.Perm.trans ?_ (ordL_perm _).symm
    rw [List.length_append, List.range_eq_range', List.range_eq_range', show List.range' 0 (x.length + y.length) = List.range' 0 x.length ++ List.range' (0 + x.length) y.length by rw [List.range'_append_1], Nat.zero_add]

theorem putK_take (l : List (Int × Int)) (k : Nat) (h : k < l.length) : (putK l).take (k + 1) = (putK l).take k ++ [l.getD ((ordL l)[k]'(by rw [ordL_len]; exact h)) (0, 0)] := by
  rw [List.take_succ_eq_append_getElem (by rw [putK_len]; exact h), putK_get]
  exact h

end Go.Proofs.Ytlhmipjbpbbcbaa
