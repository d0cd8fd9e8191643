/- Lists in which one element is put in; rows that are owned. No function of the program is walked here. -/
import Derived.Test.YtpebefcmloablaaOwn
import Derived.Laws.OwnMore
namespace Go.Proofs.Ytpebefcmloablaa
open Go.RowKit

/-- S with x put in at k -/
def insA {α : Type} (S : List α) (k : Nat) (x : α) : List α := S.take k ++ x :: S.drop k

section
variable {α : Type} (S : List α) (k : Nat) (x : α)
theorem insA_len (h : k ≤ S.length) : (insA S k x).length = S.length + 1 := by simp [insA]; omega
theorem insA_top : insA S S.length x = S ++ [x] := by simp [insA]
theorem insA_perm : (insA S k x).Perm (S ++ [x]) := by
  unfold insA
  refine List.perm_middle.trans ?_
  rw [List.take_append_drop]
  exact (List.perm_append_singleton x S).symm
theorem insA_mem (y : α) : y ∈ insA S k x ↔ y ∈ S ∨ y = x := by
  rw [(insA_perm S k x).mem_iff]
  simp
theorem insA_get (h : k ≤ S.length) : (insA S k x)[k]'(by rw [insA_len S k x h]; omega) = x := by
  unfold insA
  rw [List.getElem_append_right (by simp; omega)]
  simp [Nat.min_eq_left h]
theorem insA_prev (h0 : 0 < k) (h : k ≤ S.length) : (insA S k x)[k - 1]'(by rw [insA_len S k x h]; omega) = S[k - 1] := by
  unfold insA
  rw [List.getElem_append_left (by simp; omega)]
  simp
theorem insA_set (y : α) (h : k ≤ S.length) : (insA S k x).set k y = insA S k y := by
  unfold insA
  have l1 : (S.take k).length = k := by simp; omega
  rw [List.set_append_right _ _ (by omega), l1]
  simp
/-- the element ahead of the gap is moved into it -/
theorem insA_shift (h0 : 0 < k) (h : k ≤ S.length) : (insA S k x).set k S[k - 1] = insA S (k - 1) S[k - 1] := by
  rw [insA_set S k x _ h]
  obtain ⟨m, rfl⟩ : ∃ m, k = m + 1 := ⟨k - 1, by omega⟩
  simp only [Nat.add_sub_cancel]
  unfold insA
  have e1 : S.take (m + 1) = S.take m ++ [S[m]] := List.take_succ_eq_append_getElem (by omega)
  have e2 : S.drop m = S[m] :: S.drop (m + 1) := List.drop_eq_getElem_cons (by omega)
  rw [e1, e2, List.append_assoc]
  rfl
theorem insA_pairwise {R : α → α → Prop} {S : List α} {k : Nat} {x : α} (hS : S.Pairwise R) (h1 : ∀ y ∈ S.drop k, R x y) (h2 : ∀ y ∈ S.take k, R y x) : (insA S k x).Pairwise R := by
  unfold insA
  rw [List.pairwise_append]
  refine ⟨hS.sublist (List.take_sublist _ _), ?_, ?_⟩
  · rw [List.pairwise_cons]
    exact ⟨h1, hS.sublist (List.drop_sublist _ _)⟩
  · intro y hy z hz
    rcases List.mem_cons.1 hz with rfl | hz
    · exact h2 y hy
    · rw [← List.take_append_drop k S, List.pairwise_append] at hS
      exact hS.2.2 y hy z hz
theorem drop_pred (h0 : 0 < k) (h : k ≤ S.length) : S.drop (k - 1) = S[k - 1] :: S.drop k := by
  have := List.drop_eq_getElem_cons (show k - 1 < S.length by omega)
  rw [show k - 1 + 1 = k by omega] at this
  exact this
end

theorem ownRow_at {w : World} {base : Nat} {e : TypeId} {size : Nat} {v : Value} {n : Nat} {xs : List Value} (h : w.ownsRow base e size v n xs) (h0 : 0 < n) : ∃ g c, v = .slice (some ⟨g, 0, none⟩) n c ∧ base ≤ g ∧ g < w.heap.size ∧ n ≤ c ∧ c ≤ maxLen := by
  rcases h.2 with ⟨_, h1⟩ | ⟨g, cap, cur, rfl, h2, h3, h4, h5, _⟩
  · omega
  · exact ⟨g, cap, rfl, h2, (Array.getElem?_eq_some_iff.1 h3).1, h4, h5⟩

theorem owns_sameH {w w' : World} {base : Nat} {e : TypeId} {size n : Nat} {v : Value} {xs : List Value} (h : w.ownsRow base e size v n xs) (he : ∀ gb, v.ownBlock = some gb → w'.heap[gb]? = w.heap[gb]?) : w'.ownsRow base e size v n xs := by
  obtain ⟨h1, h2⟩ := h
  refine ⟨h1, ?_⟩
  rcases h2 with h | ⟨g, cap, cur, rfl, hg, hh, r⟩
  · exact .inl h
  · exact .inr ⟨g, cap, cur, rfl, hg, (he g rfl).trans hh, r⟩

theorem heap_setNe {w : World} {a : Addr} {v : Value} {b : Nat} (h : a.block ≠ b) : (w.setCell a v).heap[b]? = w.heap[b]? := Below.heap_setCell w a v b (Ne.symm h)

/-- the begin of a row -/
theorem ownsRow_take {w : World} {base g n c m : Nat} {e : TypeId} {size : Nat} {xs : List Value} (h : w.ownsRow base e size (.slice (some ⟨g, 0, none⟩) n c) n xs) (hm : m ≤ n) : w.ownsRow base e size (.slice (some ⟨g, 0, none⟩) m c) m (xs.take (m * size)) := by
  obtain ⟨h1, h2⟩ := h
  have hle : m * size ≤ n * size := Nat.mul_le_mul_right _ hm
  refine ⟨by rw [List.length_take, h1]; omega, ?_⟩
  rcases h2 with ⟨h, _⟩ | ⟨g', cap, cur, h3, hg, hh, hc, hx, hs, ht⟩
  · cases h
  · injection h3 with e1 e2 e3
    injection e1 with e1
    injection e1 with e1 _ _
    subst e1 e3
    refine .inr ⟨g, c, cur, rfl, hg, hh, by omega, hx, hs, ?_⟩
    have := congrArg (List.take (m * size)) ht
    rw [List.take_take, Nat.min_eq_left hle] at this
    exact this

theorem flatMap_take {α : Type} {enc : α → List Value} {sz : Nat} (hk : ∀ x, (enc x).length = sz) : ∀ (l : List α) (m : Nat), (l.flatMap enc).take (m * sz) = (l.take m).flatMap enc
  | [], m => by simp
  | x :: l, 0 => by simp
  | x :: l, m + 1 => by
    rw [List.flatMap_cons, List.take_succ_cons, List.flatMap_cons, Nat.add_mul, Nat.one_mul, Nat.add_comm, ← hk x, List.take_length_add_append, hk x, flatMap_take hk l m]

end Go.Proofs.Ytpebefcmloablaa
