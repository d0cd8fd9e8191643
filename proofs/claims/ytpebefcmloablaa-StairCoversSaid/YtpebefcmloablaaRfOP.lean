/- gridironref15.Of: the plain law. No function of the program is walked here. -/
import Derived.Test.YtpebefcmloablaaRfO
import Derived.Test.YtpebefcmloablaaIns
namespace Go.Proofs.Ytpebefcmloablaa

/-- those of the first i points that are not beaten, in order -/
def SkyPre (l : List Pt) (i : Nat) (O : List Pt) : Prop := O.Pairwise ltX ∧ ∀ p, p ∈ O ↔ p ∈ l.take i ∧ btn l p = false

theorem skyPre_nil (l : List Pt) : SkyPre l 0 [] := ⟨List.Pairwise.nil, by simp⟩

theorem mem_take_succ {l : List Pt} {i : Nat} (h : i < l.length) (p : Pt) : p ∈ l.take (i + 1) ↔ p ∈ l.take i ∨ p = l[i] := by
  rw [List.take_succ_eq_append_getElem h, List.mem_append, List.mem_singleton]

theorem skyPre_skip {l O : List Pt} {i : Nat} (h : SkyPre l i O) (hi : i < l.length) (hb : btn l l[i] = true) : SkyPre l (i + 1) O := by
  refine ⟨h.1, fun p => ?_⟩
  rw [h.2 p, mem_take_succ hi]
  constructor
  · exact fun ⟨a, b⟩ => ⟨.inl a, b⟩
  · rintro ⟨a | rfl, b⟩
    · exact ⟨a, b⟩
    · rw [hb] at b; cases b

theorem id_ne {l : List Pt} (hu : (ids l).Nodup) {i : Nat} (hi : i < l.length) {q : Pt} (hq : q ∈ l.take i) : q.2.2 ≠ l[i].2.2 := by
  obtain ⟨j, hj, rfl⟩ := List.getElem_of_mem hq
  have hj2 : j < i := by simp at hj; omega
  rw [List.getElem_take]
  have := List.pairwise_iff_getElem.1 hu j i (by simp [ids]; omega) (by simpa [ids] using hi) hj2
  simpa [ids] using this

theorem skyPre_ins {l O : List Pt} {i k : Nat} (hu : (ids l).Nodup) (h : SkyPre l i O) (hi : i < l.length) (hb : btn l l[i] = false) (hk : k ≤ O.length)
    (hd : ∀ y ∈ O.drop k, ltX l[i] y) (hs : k = 0 ∨ ∃ h : k - 1 < O.length, ¬ ltX l[i] O[k - 1]) : SkyPre l (i + 1) (insA O k l[i]) := by
  refine ⟨insA_pairwise h.1 hd fun y hy => ?_, fun p => ?_⟩
  · rcases hs with rfl | ⟨h1, hn⟩
    · simp at hy
    · have hm : O[k - 1] ∈ l.take i := ((h.2 _).1 (List.getElem_mem h1)).1
      have hx : ltX O[k - 1] l[i] := by
        have := id_ne hu hi hm
        unfold ltX at *; omega
      obtain ⟨t, ht, rfl⟩ := List.getElem_of_mem hy
      have ht2 : t < k := by simp at ht; omega
      rw [List.getElem_take]
      by_cases e : t = k - 1
      · subst e; exact hx
      · exact ltX_trans (List.pairwise_iff_getElem.1 h.1 t (k - 1) (by omega) h1 (by omega)) hx
  · rw [insA_mem, h.2 p, mem_take_succ hi]
    constructor
    · rintro (⟨a, b⟩ | rfl)
      · exact ⟨.inl a, b⟩
      · exact ⟨.inr rfl, hb⟩
    · rintro ⟨a | rfl, b⟩
      · exact .inl ⟨a, b⟩
      · exact .inr rfl

theorem skyPre_end {l O : List Pt} (hu : (ids l).Nodup) (h : SkyPre l l.length O) : O = skyOf l :=
  IsSky.unique (l := l) ⟨h.1, fun p => by rw [h.2 p, List.take_length]⟩ (skyOf_is hu)

theorem btn_take_succ (l : List Pt) (p : Pt) {k : Nat} (hk : k < l.length) : btn (l.take (k + 1)) p = (btn (l.take k) p || ovr l[k] p) := by
  unfold btn
  rw [List.take_succ_eq_append_getElem hk, List.any_append]
  simp

/-- three cells of a row, written -/
theorem flat_set3 : ∀ (l : List Pt) (k : Nat) (p : Pt), k < l.length → (((l.flatMap ePt).set (k * 3) (.int .i64 p.1)).set (k * 3 + 1) (.int .i64 p.2.1)).set (k * 3 + 2) (.int .u32 p.2.2) = (l.set k p).flatMap ePt
  | [], k, p, h => absurd h (Nat.not_lt_zero _)
  | x :: l, 0, p, _ => rfl
  | x :: l, k + 1, p, h => by
    have ih := flat_set3 l k p (by simpa using h)
    rw [List.set_cons_succ, List.flatMap_cons, List.flatMap_cons, ← ih]
    rw [show (k + 1) * 3 = k * 3 + 1 + 1 + 1 by omega]
    simp only [ePt, List.cons_append, List.nil_append, List.set_cons_succ, Nat.add_assoc]

end Go.Proofs.Ytpebefcmloablaa
