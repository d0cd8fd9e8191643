/- The plain law of gridironref14.Lows: points of a part put in order, one by one. No function of the program is walked here. -/
import Derived.Test.YtggfdlanobndjaaGreatLwP
import Derived.Test.YtggfdlanobndjaaGreatQ3
namespace Go.Proofs.YtggfdlanobndjaaGreat
open Go Go.RowKit
set_option linter.unusedVariables false
set_option linter.unusedSimpArgs false

theorem lws_skip {l : List Pt} {x1 x2 : Int} {i : Nat} (hi : i < l.length) (h : inX x1 x2 l[i] = false) : lws (l.take (i + 1)) x1 x2 = lws (l.take i) x1 x2 := by
  unfold lws
  rw [List.take_succ_eq_append_getElem hi, List.filter_append]
  simp [h]
theorem lws_mem {l : List Pt} {x1 x2 : Int} {p : Pt} : p ∈ lws l x1 x2 ↔ p ∈ l ∧ inX x1 x2 p = true := by
  unfold lws
  rw [srtY_mem, List.mem_filter]
theorem lws_nod {l : List Pt} (hu : (ids l).Nodup) (x1 x2 : Int) : (ids (l.filter (inX x1 x2))).Nodup := hu.sublist (List.filter_sublist.map _)
theorem lws_srt {l : List Pt} (hu : (ids l).Nodup) (x1 x2 : Int) : (lws l x1 x2).Pairwise ltY := srtY_sorted (lws_nod hu x1 x2)
theorem lws_put {l : List Pt} (hu : (ids l).Nodup) {x1 x2 : Int} {i k : Nat} (hi : i < l.length) (h : inX x1 x2 l[i] = true) (S : List Pt) (hS : S = lws (l.take i) x1 x2) (hk : k ≤ S.length)
    (h1 : ∀ y ∈ S.drop k, ltY l[i] y) (h2 : k = 0 ∨ ∃ h : k - 1 < S.length, ¬ ltY l[i] S[k - 1]) : insA S k l[i] = lws (l.take (i + 1)) x1 x2 := by
  have hut : ∀ j, (ids (l.take j)).Nodup := fun j => hu.sublist ((List.take_sublist j l).map _)
  have hs : S.Pairwise ltY := by rw [hS]; exact lws_srt (hut i) x1 x2
  have hne : ∀ y ∈ S, y.2.2 ≠ l[i].2.2 := fun y hy e => by
    rw [hS, lws_mem] at hy
    obtain ⟨t, ht, et⟩ := List.getElem_of_mem hy.1
    rw [List.getElem_take] at et
    simp only [List.length_take] at ht
    have hp := List.pairwise_iff_getElem.1 (List.pairwise_map.1 hu) t i (by omega) hi (by omega)
    rw [et] at hp
    exact hp e
  refine srtY_eq (lws_nod (hut (i + 1)) x1 x2) (insA_pairwise hs h1 fun y hy => ?_) fun p => ?_
  · obtain ⟨t, ht, rfl⟩ := List.getElem_of_mem hy
    rw [List.getElem_take]
    simp only [List.length_take] at ht
    rcases h2 with h2 | ⟨hk1, h2⟩
    · omega
    · have h3 : ltY S[k - 1] l[i] := by
        have := hne S[k - 1] (List.getElem_mem hk1)
        unfold ltY at *
        omega
      by_cases e : t = k - 1
      · subst e; exact h3
      · exact ltY_trans (List.pairwise_iff_getElem.1 hs t (k - 1) (by omega) hk1 (by omega)) h3
  · rw [insA_mem, hS, lws_mem, List.take_succ_eq_append_getElem hi, List.mem_filter, List.mem_append, List.mem_singleton]
    constructor
    · rintro (⟨q1, q2⟩ | rfl)
      · exact ⟨.inl q1, q2⟩
      · exact ⟨.inr rfl, h⟩
    · rintro ⟨q1 | rfl, q2⟩
      · exact .inl ⟨q1, q2⟩
      · exact .inr rfl
end Go.Proofs.YtggfdlanobndjaaGreat
