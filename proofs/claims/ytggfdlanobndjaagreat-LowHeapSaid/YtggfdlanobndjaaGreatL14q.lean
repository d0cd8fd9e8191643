/- The plain laws of chapter 14's own statements. No function of the program is walked here. -/
import Derived.Test.YtggfdlanobndjaaGreatL14p
namespace Go.Proofs.YtggfdlanobndjaaGreat
open Go Go.RowKit
set_option linter.unusedVariables false
set_option linter.unusedSimpArgs false

theorem head_of {S : List Pt} {q : Pt} (hs : S.Pairwise ltY) (hq : q ∈ S) (h : ∀ y ∈ S, y = q ∨ ltY q y) : S.head? = some q := by
  cases S with
  | nil => exact absurd hq List.not_mem_nil
  | cons a S =>
    rw [List.head?_cons]
    rcases List.mem_cons.1 hq with rfl | hq'
    · rfl
    · have h1 := (List.pairwise_cons.1 hs).1 q hq'
      rcases h a List.mem_cons_self with h2 | h2
      · rw [h2]
      · exact absurd h1 (fun h3 => ltY_asymm h2 h3)
theorem head_le {S : List Pt} {q : Pt} {T : List Pt} (hs : S.Pairwise ltY) (h : S = q :: T) : ∀ y ∈ S, y = q ∨ ltY q y := fun y hy => by
  subst h
  rcases List.mem_cons.1 hy with rfl | hy
  · exact .inl rfl
  · exact .inr ((List.pairwise_cons.1 hs).1 y hy)
theorem parts_mem {l : List Pt} {x1 x2 m : Int} (h1 : x1 ≤ m) (h2 : m < x2) (p : Pt) : p ∈ lws l x1 x2 ↔ p ∈ lws l x1 m ∨ p ∈ lws l (m + 1) x2 := by
  simp only [lws_mem]
  unfold inX
  simp only [decide_eq_true_eq]
  constructor
  · rintro ⟨q1, q2⟩
    by_cases h : p.1 ≤ m
    · exact .inl ⟨q1, by omega⟩
    · exact .inr ⟨q1, by omega⟩
  · rintro (⟨q1, q2⟩ | ⟨q1, q2⟩)
    · exact ⟨q1, by omega⟩
    · exact ⟨q1, by omega⟩
theorem parts_head {l : List Pt} (hu : (ids l).Nodup) {x1 x2 m : Int} (h1 : x1 ≤ m) (h2 : m < x2) :
    (lws l x1 m = [] → (lws l x1 x2).head? = (lws l (m + 1) x2).head?) ∧ (∀ a A, lws l x1 m = a :: A → (∀ b B, lws l (m + 1) x2 = b :: B → ltY b a → (lws l x1 x2).head? = some b) ∧ ((∀ b B, lws l (m + 1) x2 = b :: B → ¬ ltY b a) → (lws l x1 x2).head? = some a)) := by
  have hm := fun p => parts_mem (l := l) h1 h2 p
  have s1 := lws_srt hu x1 x2
  have s2 := lws_srt hu x1 m
  have s3 := lws_srt hu (m + 1) x2
  refine ⟨fun e => ?_, fun a A ea => ⟨fun b B eb hb => ?_, fun hb => ?_⟩⟩
  · cases eb : lws l (m + 1) x2 with
    | nil =>
      have : lws l x1 x2 = [] := List.eq_nil_iff_forall_not_mem.2 fun p hp => by
        rcases (hm p).1 hp with h | h
        · rw [e] at h; exact absurd h List.not_mem_nil
        · rw [eb] at h; exact absurd h List.not_mem_nil
      rw [this]
    | cons b B =>
      refine head_of s1 ((hm b).2 (.inr (by rw [eb]; simp))) fun y hy => ?_
      rcases (hm y).1 hy with h | h
      · rw [e] at h; exact absurd h List.not_mem_nil
      · exact head_le s3 eb y h
  · refine head_of s1 ((hm b).2 (.inr (by rw [eb]; simp))) fun y hy => ?_
    rcases (hm y).1 hy with h | h
    · rcases head_le s2 ea y h with h | h
      · rw [h]; exact .inr hb
      · exact .inr (ltY_trans hb h)
    · exact head_le s3 eb y h
  · refine head_of s1 ((hm a).2 (.inl (by rw [ea]; simp))) fun y hy => ?_
    rcases (hm y).1 hy with h | h
    · exact head_le s2 ea y h
    · cases eb : lws l (m + 1) x2 with
      | nil => rw [eb] at h; exact absurd h List.not_mem_nil
      | cons b B =>
        have hba := hb b B eb
        have hne : b.2.2 ≠ a.2.2 := fun e => by
          have hbm : b ∈ lws l (m + 1) x2 := by rw [eb]; simp
          have ham : a ∈ lws l x1 m := by rw [ea]; simp
          rw [lws_mem] at hbm ham
          obtain ⟨i, hi, e1⟩ := List.getElem_of_mem hbm.1
          obtain ⟨k, hk, e2⟩ := List.getElem_of_mem ham.1
          have hik : i = k := by
            have hp := List.pairwise_iff_getElem.1 (List.pairwise_map.1 hu)
            rcases Nat.lt_trichotomy i k with h9 | h9 | h9
            · have := hp i k hi hk h9
              rw [e1, e2] at this
              exact absurd e this
            · exact h9
            · have := hp k i hk hi h9
              rw [e1, e2] at this
              exact absurd e.symm this
          subst hik
          have hab : b = a := e1.symm.trans e2
          have q1 := hbm.2
          have q2 := ham.2
          rw [hab] at q1
          unfold inX at q1 q2
          simp only [decide_eq_true_eq] at q1 q2
          omega
        have hab : ltY a b := by unfold ltY at *; omega
        rcases head_le s3 eb y h with h | h
        · rw [h]; exact .inr hab
        · exact .inr (ltY_trans hab h)
end Go.Proofs.YtggfdlanobndjaaGreat
