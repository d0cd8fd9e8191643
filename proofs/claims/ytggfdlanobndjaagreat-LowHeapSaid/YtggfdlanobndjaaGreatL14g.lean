/- The plain law of LowHeap: what three sides have is the begin of the lowest ones. No function of the program is walked here. -/
import Derived.Test.YtggfdlanobndjaaGreatL14q
import Derived.Test.YtggfdlanobndjaaGreatHpQ
namespace Go.Proofs.YtggfdlanobndjaaGreat
open Go Go.RowKit
set_option linter.unusedVariables false
set_option linter.unusedSimpArgs false

theorem take_filterP {p : Pt → Bool} : ∀ (L : List Pt), L.Pairwise (fun i k => p k = true → p i = true) → L.take (L.countP p) = L.filter p
  | [], _ => rfl
  | a :: L, h => by
    obtain ⟨h1, h2⟩ := List.pairwise_cons.1 h
    have ih := take_filterP L h2
    by_cases ha : p a = true
    · rw [List.countP_cons_of_pos ha, List.filter_cons_of_pos ha, List.take_succ_cons, ih]
    · have h0 : ∀ x ∈ L, ¬ p x = true := fun x hx hp => ha (h1 x hx hp)
      rw [List.countP_cons_of_neg ha, List.filter_cons_of_neg ha, List.countP_eq_zero.2 h0, List.take_zero, List.filter_eq_nil_iff.2 h0]

section
variable {L : List Pt} (hu : (ids L).Nodup) (x1 x2 y : Int)
include hu
theorem hpl_lows : (lws L x1 x2).take (has3 L x1 x2 y).length = (lws L x1 x2).filter fun p => decide (p.2.1 ≤ y) := by
  have hs := lws_srt hu x1 x2
  have hc : (lws L x1 x2).countP (fun p => decide (p.2.1 ≤ y)) = (has3 L x1 x2 y).length := by
    rw [has3_len]
    unfold lws
    rw [(srtY_perm _).countP_eq, List.countP_filter, List.countP_eq_length_filter]
    congr 1
    apply List.filter_congr
    intro p _
    unfold inX in3
    by_cases h1 : p.2.1 ≤ y <;> by_cases h2 : x1 ≤ p.1 <;> by_cases h3 : p.1 ≤ x2 <;> simp [h1, h2, h3]
  rw [← hc]
  refine take_filterP _ (hs.imp fun {a b} hab hb => ?_)
  simp only [decide_eq_true_eq] at hb ⊢
  unfold ltY at hab
  omega
theorem hpl_len : (has3 L x1 x2 y).length ≤ (lws L x1 x2).length := by
  have h1 := congrArg List.length (hpl_lows hu x1 x2 y)
  rw [has3_len]
  unfold lws
  rw [(srtY_perm _).length_eq]
  have : L.filter (in3 x1 x2 y) = (L.filter (inX x1 x2)).filter fun p => decide (p.2.1 ≤ y) := by
    rw [List.filter_filter]
    apply List.filter_congr
    intro p _
    unfold inX in3
    by_cases h1 : p.2.1 ≤ y <;> by_cases h2 : x1 ≤ p.1 <;> by_cases h3 : p.1 ≤ x2 <;> simp [h1, h2, h3]
  rw [this]
  exact List.length_filter_le _ _
theorem hpl_at {i : Nat} (hi : i < (lws L x1 x2).length) : i < (has3 L x1 x2 y).length ↔ ((lws L x1 x2)[i]).2.1 ≤ y := by
  have ht := hpl_lows hu x1 x2 y
  have hs := lws_srt hu x1 x2
  constructor
  · intro h
    have hm : (lws L x1 x2)[i] ∈ (lws L x1 x2).take (has3 L x1 x2 y).length := List.mem_take_iff_getElem.2 ⟨i, by omega, rfl⟩
    rw [ht] at hm
    simpa using (List.mem_filter.1 hm).2
  · intro h
    have hm : (lws L x1 x2)[i] ∈ (lws L x1 x2).filter fun p => decide (p.2.1 ≤ y) := List.mem_filter.2 ⟨List.getElem_mem hi, by simpa using h⟩
    rw [← ht] at hm
    obtain ⟨k, hk, e⟩ := List.mem_take_iff_getElem.1 hm
    rcases Nat.lt_trichotomy i k with h9 | h9 | h9
    · have := List.pairwise_iff_getElem.1 hs i k hi (by omega) h9
      rw [e] at this
      exact absurd this (ltY_irr _)
    · omega
    · have := List.pairwise_iff_getElem.1 hs k i (by omega) hi h9
      rw [e] at this
      exact absurd this (ltY_irr _)
theorem hpl_names (n : Int) : n ∈ has3 L x1 x2 y ↔ n ∈ ids ((lws L x1 x2).take (has3 L x1 x2 y).length) := by
  rw [hpl_lows hu x1 x2 y]
  unfold has3 srtI ids
  rw [(List.mergeSort_perm _ _).mem_iff, List.mem_map, List.mem_map]
  constructor
  · rintro ⟨p, hp, e⟩
    obtain ⟨h1, h2⟩ := List.mem_filter.1 hp
    unfold in3 at h2
    simp only [decide_eq_true_eq] at h2
    refine ⟨p, List.mem_filter.2 ⟨lws_mem.2 ⟨h1, ?_⟩, by simpa using h2.2.2⟩, e⟩
    unfold inX
    simp only [decide_eq_true_eq]
    omega
  · rintro ⟨p, hp, e⟩
    obtain ⟨h1, h2⟩ := List.mem_filter.1 hp
    obtain ⟨h3, h4⟩ := lws_mem.1 h1
    unfold inX at h4
    simp only [decide_eq_true_eq] at h2 h4
    refine ⟨p, List.mem_filter.2 ⟨h3, ?_⟩, e⟩
    unfold in3
    simp only [decide_eq_true_eq]
    omega
theorem lws_ids : (ids (lws L x1 x2)).Nodup := ((srtY_perm _).map _).nodup_iff.2 (lws_nod hu x1 x2)
end
end Go.Proofs.YtggfdlanobndjaaGreat
