/- The plain law of low's Drop: the path's nodes are told anew, from below. No function of the program is walked here. -/
import Derived.Test.YtggfdlanobndjaaGreatLwB
import Derived.Test.YtggfdlanobndjaaGreatLwP
import Derived.Test.YtggfdlanobndjaaGreatQ5
namespace Go.Proofs.YtggfdlanobndjaaGreat
open Go Go.RowKit
set_option linter.unusedVariables false
set_option linter.unusedSimpArgs false

namespace FT
/-- the path's nodes are inner, but for the last one, which is the place's leaf -/
theorem path_shape : ∀ (t : FT) (s x : Nat), t.wf → t.lo ≤ x → x < t.hi →
    (∀ i k, (t.path s x)[i]? = some k → i + 1 < (t.path s x).length → ∃ l r s', (node l r, s') ∈ t.subs s ∧ (node l r).root s' = k) ∧
    ∃ L k, t.path s x = L ++ [k] ∧ (leaf x, k) ∈ t.subs s
  | leaf a, s, x, h, h1, h2 => by
    have hax : a = x := by simp only [lo, hi] at h1 h2; omega
    subst hax
    refine ⟨fun i k hi hl => ?_, [], s, by rw [path]; rfl, by simp [subs]⟩
    rw [path] at hl
    simp at hl
  | node l r, s, x, h, h1, h2 => by
    have h3 := h.2.2
    have key : ∀ (t : FT) (s' : Nat), (∀ p ∈ t.subs s', p ∈ (node l r).subs s) → (node l r).path s x = (node l r).root s :: t.path s' x →
        ((∀ i k, (t.path s' x)[i]? = some k → i + 1 < (t.path s' x).length → ∃ l r s'', (node l r, s'') ∈ t.subs s' ∧ (node l r).root s'' = k) ∧ ∃ L k, t.path s' x = L ++ [k] ∧ (leaf x, k) ∈ t.subs s') →
        (∀ i k, ((node l r).path s x)[i]? = some k → i + 1 < ((node l r).path s x).length → ∃ l' r' s', (node l' r', s') ∈ (node l r).subs s ∧ (node l' r').root s' = k) ∧ ∃ L k, (node l r).path s x = L ++ [k] ∧ (leaf x, k) ∈ (node l r).subs s := fun t s' hsub e ⟨q1, L, k, q2, q3⟩ => by
      rw [e]
      refine ⟨fun i k hi hl => ?_, (node l r).root s :: L, k, by rw [q2]; rfl, hsub _ q3⟩
      match i with
      | 0 =>
        simp only [List.getElem?_cons_zero] at hi
        injection hi with hi
        exact ⟨l, r, s, by simp [subs], hi⟩
      | i + 1 =>
        simp only [List.getElem?_cons_succ] at hi
        obtain ⟨l', r', s'', m1, m2⟩ := q1 i k hi (by simpa using hl)
        exact ⟨l', r', s'', hsub _ m1, m2⟩
    by_cases hx : x < l.hi
    · exact key l s (fun p hp => by simp [subs, hp]) (by rw [path, if_pos hx]) (path_shape l s x h.1 h1 hx)
    · exact key r (s + l.size) (fun p hp => by simp [subs, hp]) (by rw [path, if_neg hx]) (path_shape r _ x h.2.1 (by omega) h2)
end FT

/-- the first m nodes of a path still hold what they held -/
def hMix (N : List Nd) (YS YS' : List Nat) (P : List Nat) (m : Nat) : Hld := fun k => if k ∈ P.take m then bst N YS k else bst N YS' k

section
variable {R : List Pt} {gone gone' : List Bool} {YS : List Nat} {x : Nat}
/-- what stands aside of the path stays -/
theorem bst_aside (hx : x < R.length) {k : Nat} (hk : k < (nds R.length).length) (hP : k ∉ (mkT 0 R.length).path 0 x) : bst (nds R.length) (outX YS x) k = bst (nds R.length) YS k := by
  have h0 : 0 < R.length := by omega
  obtain ⟨t, s, ha, e⟩ := nds_get hk
  subst e
  obtain ⟨w1, w2, w3⟩ := mkT_spec 0 R.length h0
  have hm := FT.at_mem (nds_eq h0 ▸ ha)
  have hout : ¬ (t.lo ≤ x ∧ x < t.hi) := fun h => hP (FT.path_mem _ 0 x w1 (t, s) hm h.1 h.2)
  unfold bst
  rw [lk_at ha, lk_at ha]
  congr 1
  unfold nl outX
  rw [List.filter_filter]
  apply List.filter_congr
  intro i _
  by_cases e : i = x
  · subst e; simp [hout]
  · simp [e]
structure PthL (R : List Pt) (YS : List Nat) (x : Nat) (P : List Nat) : Prop where
  lt : ∀ k ∈ P, k < (nds R.length).length
  down : P.Pairwise (· > ·)
  aside : ∀ k, k < (nds R.length).length → k ∉ P → bst (nds R.length) (outX YS x) k = bst (nds R.length) YS k
  inner : ∀ i (h : i + 1 < P.length), ∃ l r s, FT.At (nds R.length) (.node l r) s ∧ (FT.node l r).wf ∧ (FT.node l r).root s = P[i]'(Nat.lt_of_succ_lt h)
  last : ∃ h : P.length - 1 < P.length, FT.At (nds R.length) (.leaf x) P[P.length - 1]
theorem path_L (YS : List Nat) (hx : x < R.length) : PthL R YS x ((mkT 0 R.length).path 0 x) := by
  have h0 : 0 < R.length := by omega
  obtain ⟨w1, w2, w3⟩ := mkT_spec 0 R.length h0
  have hT0 := nds_at R.length h0
  have hT := hT0
  rw [nds_eq h0] at hT
  have sub : ∀ p ∈ (mkT 0 R.length).subs 0, FT.At (nds R.length) p.1 p.2 := fun p hp => by rw [nds_eq h0]; exact FT.subs_at _ 0 hT _ hp
  obtain ⟨q1, L, k, q2, q3⟩ := FT.path_shape (mkT 0 R.length) 0 x w1 (by omega) (by omega)
  refine ⟨fun k hk => ?_, FT.path_down _ 0 x w1 (by omega) (by omega), fun k hk hP => bst_aside hx hk hP, fun i h => ?_, ?_⟩
  · obtain ⟨p, hp, e, -⟩ := FT.mem_path _ 0 x w1 (by omega) (by omega) k hk
    rw [← e]
    exact (sub p hp).lt
  · obtain ⟨l, r, s, m1, m2⟩ := q1 i _ (List.getElem?_eq_getElem (Nat.lt_of_succ_lt h)) h
    exact ⟨l, r, s, sub _ m1, FT.subs_wf _ 0 w1 _ m1, m2⟩
  · have hl : ((mkT 0 R.length).path 0 x).length - 1 < ((mkT 0 R.length).path 0 x).length := by rw [q2]; simp
    refine ⟨hl, ?_⟩
    have e : ((mkT 0 R.length).path 0 x)[((mkT 0 R.length).path 0 x).length - 1] = k := by simp [q2]
    rw [e]
    exact sub _ q3
variable {P : List Nat} (hP : PthL R YS x P)
include hP
theorem PthL.sorted {i j : Nat} (hij : i < j) (hj : j < P.length) : P[j] < P[i] := List.pairwise_iff_getElem.1 hP.down i j (by omega) hj hij
theorem PthL.not_take {m k : Nat} (hm : m < P.length) (hk : k ≤ P[m]) (h : k ∈ P.take m) : False := by
  obtain ⟨i, hi, e⟩ := List.getElem_of_mem h
  have hil : i < m := by simp at hi; omega
  have e2 : P[i]'(by omega) = k := by rw [← e]; simp
  have := hP.sorted hil hm
  omega
theorem mix_first (hW' : CscWF R gone' (outX YS x)) (k : Nat) (hk : k < (nds R.length).length) : updH (bst (nds R.length) YS) (P[P.length - 1]'hP.last.1) none k = hMix (nds R.length) YS (outX YS x) P (P.length - 1) k := by
  obtain ⟨hl, ha⟩ := hP.last
  unfold hMix
  by_cases e : k = P[P.length - 1]
  · subst e
    rw [updH_same, if_neg (fun h => hP.not_take hl (Nat.le_refl _) h), bst_leaf hW' ha, if_neg (by simp [outX])]
  · rw [updH_ne e]
    by_cases h : k ∈ P.take (P.length - 1)
    · rw [if_pos h]
    · rw [if_neg h]
      refine (hP.aside k hk fun h9 => ?_).symm
      obtain ⟨i, hi, e9⟩ := List.getElem_of_mem h9
      by_cases hie : i = P.length - 1
      · subst hie; exact e e9.symm
      · exact h (by rw [← e9]; exact List.mem_take_iff_getElem.2 ⟨i, by omega, rfl⟩)
theorem mix_step (hW' : CscWF R gone' (outX YS x)) {m : Nat} (hm : m + 1 < P.length) : ∃ l r s, FT.At (nds R.length) (.node l r) s ∧ (FT.node l r).root s = P[m]'(Nat.lt_of_succ_lt hm) ∧
    hMix (nds R.length) YS (outX YS x) P (m + 1) (l.root s) = bst (nds R.length) (outX YS x) (l.root s) ∧ hMix (nds R.length) YS (outX YS x) P (m + 1) (r.root (s + l.size)) = bst (nds R.length) (outX YS x) (r.root (s + l.size)) ∧
    ∀ k, updH (hMix (nds R.length) YS (outX YS x) P (m + 1)) (P[m]'(Nat.lt_of_succ_lt hm)) (lowO R (bst (nds R.length) (outX YS x) (l.root s)) (bst (nds R.length) (outX YS x) (r.root (s + l.size)))) k = hMix (nds R.length) YS (outX YS x) P m k := by
  obtain ⟨l, r, s, ha, hw, e⟩ := hP.inner m hm
  have hlr : l.root s < (FT.node l r).root s ∧ r.root (s + l.size) < (FT.node l r).root s := by
    have := l.size_pos
    have := r.size_pos
    have hsz : (FT.node l r).size = l.size + r.size + 1 := rfl
    unfold FT.root
    omega
  have nt : ∀ k, k < (FT.node l r).root s → k ∉ P.take (m + 1) := fun k hk h => by
    rw [e] at hk
    rw [List.take_succ_eq_append_getElem (Nat.lt_of_succ_lt hm), List.mem_append, List.mem_singleton] at h
    rcases h with h | h
    · exact hP.not_take (Nat.lt_of_succ_lt hm) (Nat.le_of_lt hk) h
    · omega
  refine ⟨l, r, s, ha, e, if_neg (nt _ hlr.1), if_neg (nt _ hlr.2), fun k => ?_⟩
  by_cases hk : k = P[m]
  · subst hk
    rw [updH_same]
    unfold hMix
    rw [if_neg (fun h => hP.not_take (Nat.lt_of_succ_lt hm) (Nat.le_refl _) h), ← e, bst_node hW' ha hw]
  · rw [updH_ne hk]
    unfold hMix
    have : k ∈ P.take (m + 1) ↔ k ∈ P.take m := by
      rw [List.take_succ_eq_append_getElem (Nat.lt_of_succ_lt hm), List.mem_append, List.mem_singleton]
      exact ⟨fun h => h.resolve_right hk, .inl⟩
    simp only [this]
theorem mix_none : hMix (nds R.length) YS (outX YS x) P 0 = bst (nds R.length) (outX YS x) := by
  have _ := hP
  funext k; unfold hMix; rw [List.take_zero, if_neg List.not_mem_nil]
end
end Go.Proofs.YtggfdlanobndjaaGreat
