/- gridironlaw04.awake answers true; plain facts on what is squeezed. -/
import Derived.Test.YtlhmipjbpbbcbaaRankSqz
import Derived.Test.YtlhmipjbpbbcbaaRankA
import Derived.Test.YtlhmipjbpbbcbaaSame
namespace Go.Proofs.Ytlhmipjbpbbcbaa
open Go.RowKit

/-- what 'keeps' says of rising numbers -/
theorem compact_mem (d : Array Int) : ∀ m, m ≤ d.size → (∀ i j, i < j → j < d.size → d[i]! ≤ d[j]!) →
    (Lib.compactUpTo d m).Pairwise (· < ·) ∧ (∀ x, x ∈ Lib.compactUpTo d m ↔ ∃ i, i < m ∧ d[i]! = x) := by
  intro m
  induction m with
  | zero => intro _ _; simp [Lib.compactUpTo]
  | succ m ih =>
    intro hm hd
    obtain ⟨h1, h2⟩ := ih (by omega) hd
    rw [Lib.compactUpTo_succ]
    by_cases hk : Lib.keeps d m = true
    · rw [if_pos hk]
      have hlast : ∀ i, i < m → d[i]! < d[m]! := by
        intro i hi
        have h3 := hd i m hi (by omega)
        have h4 : m = 0 ∨ d[m]! ≠ d[m - 1]! := by simpa [Lib.keeps] using hk
        rcases h4 with h4 | h4
        · omega
        · by_cases e : i = m - 1
          · subst e; omega
          · have h5 := hd i (m - 1) (by omega) (by omega)
            have h6 := hd (m - 1) m (by omega) (by omega)
            omega
      refine ⟨?_, ?_⟩
      · rw [List.pairwise_append]
        refine ⟨h1, by simp, ?_⟩
        intro x hx y hy
        obtain ⟨i, hi, rfl⟩ := (h2 x).1 hx
        simp at hy
        subst hy
        exact hlast i hi
      · intro x
        rw [List.mem_append, h2]
        simp
        constructor
        · rintro (⟨i, hi, e⟩ | e)
          · exact ⟨i, by omega, e⟩
          · exact ⟨m, by omega, e.symm⟩
        · rintro ⟨i, hi, e⟩
          by_cases h : i = m
          · subst h; exact .inr e.symm
          · exact .inl ⟨i, by omega, e⟩
    · rw [if_neg hk, List.append_nil]
      refine ⟨h1, fun x => ?_⟩
      rw [h2]
      have h4 : ¬ (m = 0 ∨ d[m]! ≠ d[m - 1]!) := by simpa [Lib.keeps] using hk
      constructor
      · rintro ⟨i, hi, e⟩; exact ⟨i, by omega, e⟩
      · rintro ⟨i, hi, e⟩
        by_cases h : i = m
        · subst h
          refine ⟨i - 1, by omega, ?_⟩
          rw [← e]
          exact Classical.byContradiction fun h5 => h4 (.inr fun h6 => h5 h6.symm)
        · exact ⟨i, by omega, e⟩

theorem getBang {l : List Int} {i : Nat} (h : i < l.length) : l.toArray[i]! = l[i] := by simp [h]

theorem sqz_facts (l : List Int) : (sqz l).Pairwise (· < ·) ∧ (∀ x, x ∈ sqz l ↔ x ∈ l) ∧ (sqz l).length ≤ l.length := by
  have hs : (l.mergeSort fun x y => decide (x ≤ y)).Pairwise (fun x y => decide (x ≤ y) = true) := List.pairwise_mergeSort (fun a b c h1 h2 => by simp at *; omega) (fun a b => by simp; omega) l
  have hd : ∀ i j, i < j → j < (l.mergeSort fun x y => decide (x ≤ y)).toArray.size → (l.mergeSort fun x y => decide (x ≤ y)).toArray[i]! ≤ (l.mergeSort fun x y => decide (x ≤ y)).toArray[j]! := by
    intro i j hij hj
    have hj' : j < (l.mergeSort fun x y => decide (x ≤ y)).length := by simpa using hj
    have := List.pairwise_iff_getElem.1 hs i j (by omega) hj' hij
    rw [getBang hj', getBang (by omega)]
    simpa using this
  obtain ⟨h1, h2⟩ := compact_mem _ _ (Nat.le_refl _) hd
  refine ⟨h1, fun x => ?_, ?_⟩
  · unfold sqz
    rw [h2]
    constructor
    · rintro ⟨i, hi, rfl⟩
      have hi' : i < (l.mergeSort fun x y => decide (x ≤ y)).length := by simpa using hi
      rw [getBang hi']
      exact (List.mem_mergeSort).1 (List.getElem_mem hi')
    · intro hx
      obtain ⟨i, hi, rfl⟩ := List.getElem_of_mem ((List.mem_mergeSort (le := fun x y => decide (x ≤ y))).2 hx)
      exact ⟨i, by simpa using hi, getBang hi⟩
  · unfold sqz Lib.compactUpTo
    rw [List.length_map]
    exact Nat.le_trans (List.length_filter_le _ _) (by simp)

theorem rising_ext (s t : List Int) (h1 : s.Pairwise (· < ·)) (h2 : t.Pairwise (· < ·)) (h : ∀ x, x ∈ s ↔ x ∈ t) : s = t := by
  induction s generalizing t with
  | nil => cases t with
    | nil => rfl
    | cons y t => exact absurd ((h y).2 (by simp)) (by simp)
  | cons x s ih => cases t with
    | nil => exact absurd ((h x).1 (by simp)) (by simp)
    | cons y t =>
      rw [List.pairwise_cons] at h1 h2
      have hxy : x = y := by
        have a := (h x).1 (by simp)
        have b := (h y).2 (by simp)
        simp at a b
        rcases a with a | a
        · exact a
        · rcases b with b | b
          · exact b.symm
          · have := h1.1 y b; have := h2.1 x a; omega
      subst hxy
      congr 1
      refine ih t h1.2 h2.2 fun z => ?_
      constructor
      · intro hz
        have := (h z).1 (by simp [hz])
        simp at this
        rcases this with e | e
        · subst e; exact absurd (h1.1 z hz) (Int.lt_irrefl _)
        · exact e
      · intro hz
        have := (h z).2 (by simp [hz])
        simp at this
        rcases this with e | e
        · subst e; exact absurd (h2.1 z hz) (Int.lt_irrefl _)
        · exact e

theorem sqz_of (l s : List Int) (h1 : s.Pairwise (· < ·)) (h : ∀ x, x ∈ s ↔ x ∈ l) : sqz l = s :=
  rising_ext _ _ (sqz_facts l).1 h1 fun x => by rw [(sqz_facts l).2.1, h]

end Go.Proofs.Ytlhmipjbpbbcbaa
