/- Several texts in one: FSub, DrP, TrP, Rf8, Log, TrC, MapJ, Clk, LsR, SpI, Spr, Spl, PtY, Bl0, Bl1. -/
import Derived.Test.YtggfdlanobndjaaGreatQ3
import Derived.Test.YtggfdlanobndjaaGreatQ4
import Derived.Test.YtggfdlanobndjaaGreatQ1
import Derived.Test.YtggfdlanobndjaaGreatShelf
import Derived.WalkSpells
import Derived.Lib.ItoaNum
import Derived.Maps.OwnSet
import Derived.Maps.OwnOps
import Derived.Deep.LoopGhost
import Derived.Deep.CutBlock
import Derived.Deep.CutRange
import Derived.Laws.MakeOwn
import Derived.Laws.OwnMore

/- The plain law of a tree's nodes by index: what stands where, and whose kid it is. No function of the program is walked here. -/
namespace Go.Proofs.YtggfdlanobndjaaGreat
open Go

namespace FT
/-- one place, one tree -/
theorem At.unique {N : List Nd} : ∀ {t t' : FT} {s s' : Nat}, At N t s → At N t' s' → t.root s = t'.root s' → t = t' ∧ s = s'
  | leaf a, t', s, s', h, h', e => by
    have g := h.get
    rw [e, h'.get] at g
    injection g with g
    cases t' with
    | leaf a' =>
      simp only [top, Nd.mk.injEq] at g
      obtain ⟨-, -, -, g4, -⟩ := g
      have h1 : a' = a := by omega
      subst h1
      unfold root at e
      simp only [size] at e
      exact ⟨rfl, by omega⟩
    | node l r =>
      simp only [top, Nd.mk.injEq] at g
      omega
  | node l r, t', s, s', h, h', e => by
    have g := h.get
    rw [e, h'.get] at g
    injection g with g
    cases t' with
    | leaf a' =>
      simp only [top, Nd.mk.injEq] at g
      omega
    | node l' r' =>
      simp only [top, Nd.mk.injEq] at g
      obtain ⟨-, g2, g3, -⟩ := g
      have p1 := l.size_pos
      have p2 := l'.size_pos
      have p3 := r.size_pos
      have p4 := r'.size_pos
      obtain ⟨rfl, rfl⟩ := At.unique h.left h'.left (by unfold root; omega)
      obtain ⟨rfl, -⟩ := At.unique h.right h'.right (by unfold root; omega)
      exact ⟨rfl, rfl⟩

/-- all trees in a tree, each at its place -/
def subs : FT → Nat → List (FT × Nat)
  | leaf a, s => [(leaf a, s)]
  | node l r, s => l.subs s ++ r.subs (s + l.size) ++ [(node l r, s)]
theorem subs_len : ∀ (t : FT) (s : Nat), (t.subs s).length = t.size
  | leaf a, s => rfl
  | node l r, s => by simp only [subs, size, List.length_append, subs_len l, subs_len r, List.length_cons, List.length_nil]
theorem subs_root : ∀ (t : FT) (s i : Nat) (h : i < (t.subs s).length), (t.subs s)[i].1.root (t.subs s)[i].2 = s + i
  | leaf a, s, i, h => by
    have : i = 0 := by simpa [subs] using h
    subst this
    simp [subs, root, size]
  | node l r, s, i, h => by
    have h' := h
    rw [subs_len] at h'
    simp only [subs]
    by_cases h1 : i < l.size
    · rw [List.getElem_append_left (by rw [List.length_append, subs_len, subs_len]; omega), List.getElem_append_left (by rw [subs_len]; exact h1)]
      exact subs_root l s i _
    · by_cases h2 : i < l.size + r.size
      · rw [List.getElem_append_left (by rw [List.length_append, subs_len, subs_len]; omega), List.getElem_append_right (by rw [subs_len]; omega)]
        have h4 := subs_root r (s + l.size) (i - (l.subs s).length) (by rw [subs_len, subs_len]; omega)
        rw [h4, subs_len]
        omega
      · simp only [size] at h'
        rw [List.getElem_append_right (by rw [List.length_append, subs_len, subs_len]; omega)]
        simp only [List.getElem_singleton]
        unfold root
        simp only [size]
        omega
theorem subs_at {N : List Nd} : ∀ (t : FT) (s : Nat), At N t s → ∀ p ∈ t.subs s, At N p.1 p.2
  | leaf a, s, h, p, hp => by
    have : p = (leaf a, s) := by simpa [subs] using hp
    subst this
    exact h
  | node l r, s, h, p, hp => by
    simp only [subs, List.mem_append, List.mem_singleton] at hp
    rcases hp with (hp | hp) | hp
    · exact subs_at l s h.left p hp
    · exact subs_at r _ h.right p hp
    · subst hp; exact h
/-- what stands among the nodes is one of them -/
theorem at_mem {t : FT} {t' : FT} {s' : Nat} (h : At (t.nodes 0) t' s') : (t', s') ∈ t.subs 0 := by
  have hT : At (t.nodes 0) t 0 := ⟨[], [], by simp, rfl⟩
  have hl := h.lt
  rw [nodes_len] at hl
  have hl2 : t'.root s' < (t.subs 0).length := by rw [subs_len]; exact hl
  have h1 := subs_root t 0 _ hl2
  have h2 := subs_at t 0 hT _ (List.getElem_mem hl2)
  obtain ⟨e1, e2⟩ := At.unique h h2 (by rw [h1]; omega)
  have : (t', s') = (t.subs 0)[t'.root s'] := Prod.ext e1 e2
  rw [this]
  exact List.getElem_mem hl2

/-- each is the whole, or a kid -/
theorem subs_kid : ∀ (t : FT) (s : Nat), ∀ p ∈ t.subs s, p = (t, s) ∨ ∃ l r q, (node l r, q) ∈ t.subs s ∧ (p = (l, q) ∨ p = (r, q + l.size))
  | leaf a, s, p, hp => .inl (by simpa [subs] using hp)
  | node l r, s, p, hp => by
    simp only [subs, List.mem_append, List.mem_singleton] at hp ⊢
    rcases hp with (hp | hp) | hp
    · rcases subs_kid l s p hp with h | ⟨l', r', q, h1, h2⟩
      · exact .inr ⟨l, r, s, .inr rfl, .inl h⟩
      · exact .inr ⟨l', r', q, .inl (.inl h1), h2⟩
    · rcases subs_kid r _ p hp with h | ⟨l', r', q, h1, h2⟩
      · exact .inr ⟨l, r, s, .inr rfl, .inr h⟩
      · exact .inr ⟨l', r', q, .inl (.inr h1), h2⟩
    · exact .inl hp

/-- whose kid each one is -/
def pars : FT → Nat → Nat → List Nat
  | leaf _, _, p => [p]
  | node l r, s, p => l.pars s ((node l r).root s) ++ r.pars (s + l.size) ((node l r).root s) ++ [p]
theorem pars_len : ∀ (t : FT) (s p : Nat), (t.pars s p).length = t.size
  | leaf a, s, p => rfl
  | node l r, s, p => by simp only [pars, size, List.length_append, pars_len l, pars_len r, List.length_cons, List.length_nil]
theorem pars_root : ∀ (t : FT) (s p : Nat), (t.pars s p)[t.root s - s]? = some p
  | leaf a, s, p => by simp [pars, root, size]
  | node l r, s, p => by
    have e : (node l r).root s - s = l.size + r.size := by unfold root; simp only [size]; omega
    rw [e]
    simp only [pars]
    rw [List.getElem?_append_right (by rw [List.length_append, pars_len, pars_len]; omega), List.length_append, pars_len, pars_len, Nat.sub_self]
    rfl
theorem root_ge {t : FT} {s : Nat} : s ≤ t.root s := by unfold root; have := t.size_pos; omega
theorem subs_in : ∀ (t : FT) (s : Nat), ∀ p ∈ t.subs s, s ≤ p.2 ∧ p.2 + p.1.size ≤ s + t.size
  | leaf a, s, p, hp => by
    have : p = (leaf a, s) := by simpa [subs] using hp
    subst this
    exact ⟨Nat.le_refl _, Nat.le_refl _⟩
  | node l r, s, p, hp => by
    simp only [subs, List.mem_append, List.mem_singleton] at hp
    simp only [size]
    rcases hp with (hp | hp) | hp
    · have := subs_in l s p hp; omega
    · have := subs_in r _ p hp; omega
    · subst hp; simp only [size]; omega
theorem pars_l {l r : FT} {s p i : Nat} (h : i < l.size) : ((node l r).pars s p)[i]? = (l.pars s ((node l r).root s))[i]? := by
  simp only [pars]
  rw [List.append_assoc, List.getElem?_append_left (by rw [pars_len]; exact h)]
theorem pars_r {l r : FT} {s p i : Nat} (h1 : l.size ≤ i) (h : i < l.size + r.size) : ((node l r).pars s p)[i]? = (r.pars (s + l.size) ((node l r).root s))[i - l.size]? := by
  simp only [pars]
  rw [List.getElem?_append_left (by rw [List.length_append, pars_len, pars_len]; exact h), List.getElem?_append_right (by rw [pars_len]; exact h1), pars_len]
theorem pars_kid : ∀ (t : FT) (s p : Nat) (l r : FT) (q : Nat), (node l r, q) ∈ t.subs s → (t.pars s p)[l.root q - s]? = some ((node l r).root q) ∧ (t.pars s p)[r.root (q + l.size) - s]? = some ((node l r).root q)
  | leaf a, s, p, l, r, q, h => by simp [subs] at h
  | node l0 r0, s, p, l, r, q, h => by
    simp only [subs, List.mem_append, List.mem_singleton] at h
    have pl := l.size_pos
    have pr := r.size_pos
    have pl0 := l0.size_pos
    have pr0 := r0.size_pos
    have el : l.root q = q + l.size - 1 := rfl
    have er : r.root (q + l.size) = q + l.size + r.size - 1 := rfl
    rcases h with (h | h) | h
    · obtain ⟨h1, h2⟩ := pars_kid l0 s ((node l0 r0).root s) l r q h
      have h3 := subs_in l0 s _ h
      simp only [size] at h3
      rw [pars_l (by omega), pars_l (by omega)]
      exact ⟨h1, h2⟩
    · obtain ⟨h1, h2⟩ := pars_kid r0 _ ((node l0 r0).root s) l r q h
      have h3 := subs_in r0 _ _ h
      simp only [size] at h3
      rw [pars_r (by omega) (by omega), pars_r (by omega) (by omega)]
      rw [show l.root q - s - l0.size = l.root q - (s + l0.size) by omega, show r.root (q + l.size) - s - l0.size = r.root (q + l.size) - (s + l0.size) by omega]
      exact ⟨h1, h2⟩
    · simp only [Prod.mk.injEq, node.injEq] at h
      obtain ⟨⟨rfl, rfl⟩, rfl⟩ := h
      have h1 := pars_root l q ((node l r).root q)
      have h2 := pars_root r (q + l.size) ((node l r).root q)
      rw [pars_l (by omega), pars_r (by omega) (by omega)]
      rw [show r.root (q + l.size) - q - l.size = r.root (q + l.size) - (q + l.size) by omega]
      exact ⟨h1, h2⟩

/-- a kid has one parent -/
theorem kid_unique {t l r l' r' : FT} {q q' : Nat} (h : At (t.nodes 0) (node l r) q) (h' : At (t.nodes 0) (node l' r') q')
    (e : l.root q = l'.root q' ∨ l.root q = r'.root (q' + l'.size) ∨ r.root (q + l.size) = l'.root q' ∨ r.root (q + l.size) = r'.root (q' + l'.size)) : (node l r).root q = (node l' r').root q' := by
  obtain ⟨a1, a2⟩ := pars_kid t 0 0 l r q (at_mem h)
  obtain ⟨b1, b2⟩ := pars_kid t 0 0 l' r' q' (at_mem h')
  rcases e with e | e | e | e
  · rw [e, b1] at a1; injection a1 with a1; exact a1.symm
  · rw [e, b2] at a1; injection a1 with a1; exact a1.symm
  · rw [e, b1] at a2; injection a2 with a2; exact a2.symm
  · rw [e, b2] at a2; injection a2 with a2; exact a2.symm
theorem kids_ne (l r : FT) (q : Nat) : l.root q < r.root (q + l.size) ∧ r.root (q + l.size) < (node l r).root q := by
  have := l.size_pos
  have := r.size_pos
  unfold root
  simp only [size]
  omega
/-- the root is no kid -/
theorem kid_ne_root {t l r : FT} {q : Nat} (h : At (t.nodes 0) (node l r) q) : l.root q ≠ t.root 0 ∧ r.root (q + l.size) ≠ t.root 0 := by
  have h1 := subs_in t 0 _ (at_mem h)
  simp only [size] at h1
  have := r.size_pos
  unfold root
  omega
theorem at_kid {t t' : FT} {s' : Nat} (h : At (t.nodes 0) t' s') : (t' = t ∧ s' = 0) ∨ ∃ l r q, At (t.nodes 0) (node l r) q ∧ ((t' = l ∧ s' = q) ∨ (t' = r ∧ s' = q + l.size)) := by
  have hT : At (t.nodes 0) t 0 := ⟨[], [], by simp, rfl⟩
  rcases subs_kid t 0 _ (at_mem h) with h1 | ⟨l, r, q, h1, h2⟩
  · simp only [Prod.mk.injEq] at h1; exact .inl h1
  · refine .inr ⟨l, r, q, subs_at t 0 hT _ h1, ?_⟩
    simpa only [Prod.mk.injEq] using h2
theorem subs_wf : ∀ (t : FT) (s : Nat), t.wf → ∀ p ∈ t.subs s, p.1.wf
  | leaf a, s, h, p, hp => by
    have : p = (leaf a, s) := by simpa [subs] using hp
    subst this; exact h
  | node l r, s, h, p, hp => by
    simp only [subs, List.mem_append, List.mem_singleton] at hp
    rcases hp with (hp | hp) | hp
    · exact subs_wf l s h.1 p hp
    · exact subs_wf r _ h.2.1 p hp
    · subst hp; exact h
theorem subs_hi : ∀ (t : FT) (s : Nat), t.wf → ∀ p ∈ t.subs s, p.1.hi ≤ t.hi
  | leaf a, s, h, p, hp => by
    have : p = (leaf a, s) := by simpa [subs] using hp
    subst this; exact Nat.le_refl _
  | node l r, s, h, p, hp => by
    simp only [subs, List.mem_append, List.mem_singleton] at hp
    have h1 := lo_hi r h.2.1
    have h2 := h.2.2
    show _ ≤ r.hi
    rcases hp with (hp | hp) | hp
    · have := subs_hi l s h.1 p hp; omega
    · exact subs_hi r _ h.2.1 p hp
    · subst hp; exact Nat.le_refl _
end FT
end Go.Proofs.YtggfdlanobndjaaGreat

/- The plain law of cascade.Drop: a place is taken out of the lists of the nodes on its path. No function of the program is walked here. -/
namespace Go.Proofs.YtggfdlanobndjaaGreat
open Go
set_option linter.unusedVariables false

/-- the place x taken out -/
def outX (YS : List Nat) (x : Nat) : List Nat := YS.filter fun i => decide (i ≠ x)

theorem erase_filter {L : List Nat} (hn : L.Nodup) {i x : Nat} (hi : i < L.length) (hx : L[i] = x) : L.eraseIdx i = L.filter fun k => decide (k ≠ x) := by
  induction L generalizing i with
  | nil => simp at hi
  | cons a L ih =>
    rw [List.nodup_cons] at hn
    cases i with
    | zero =>
      simp only [List.getElem_cons_zero] at hx
      subst hx
      rw [List.eraseIdx_cons_zero, List.filter_cons_of_neg (by simp)]
      symm
      refine List.filter_eq_self.2 fun k hk => ?_
      simp only [decide_eq_true_eq]
      rintro rfl
      exact hn.1 hk
    | succ i =>
      simp only [List.getElem_cons_succ] at hx
      have hi' : i < L.length := by simpa using hi
      rw [List.eraseIdx_cons_succ, List.filter_cons_of_pos, ih hn.2 hi' hx]
      simp only [decide_eq_true_eq]
      rintro rfl
      exact hn.1 (hx ▸ List.getElem_mem hi')

theorem nl_outX (YS : List Nat) (x : Nat) (t : FT) : nl (outX YS x) t = (nl YS t).filter fun k => decide (k ≠ x) := by
  unfold nl outX
  rw [List.filter_filter, List.filter_filter]
  refine List.filter_congr fun k _ => ?_
  rw [Bool.and_comm]
theorem nl_out_other {YS : List Nat} {x : Nat} {t : FT} (h : ¬ (t.lo ≤ x ∧ x < t.hi)) : nl (outX YS x) t = nl YS t := by
  rw [nl_outX]
  refine List.filter_eq_self.2 fun k hk => ?_
  have := (List.mem_filter.1 hk).2
  simp only [decide_eq_true_eq] at this ⊢
  rintro rfl
  exact h this
theorem nl_out_at {YS : List Nat} (hn : YS.Nodup) {x i : Nat} {t : FT} (hi : i < (nl YS t).length) (hx : (nl YS t)[i] = x) : nl (outX YS x) t = (nl YS t).eraseIdx i := by
  rw [nl_outX]
  exact (erase_filter (L := nl YS t) (show (nl YS t).Nodup from List.Pairwise.filter _ hn) hi hx).symm

section
variable {m : Nat} {L : List Nat} {i x : Nat}
theorem lfE_len (hi : i < L.length) : ((lf m L).eraseIdx (i + 1)).length = L.length := by
  rw [List.length_eraseIdx, lf_len, if_pos (by omega)]
  omega
theorem lfX_len (hi : i < L.length) : (lf m (L.eraseIdx i)).length = L.length := by
  rw [lf_len, List.length_eraseIdx, if_pos hi]
  omega
theorem take_erase_lo {j : Nat} (hj : j ≤ i) : (L.eraseIdx i).take j = L.take j := by
  by_cases h : i < L.length
  · rw [List.eraseIdx_eq_take_drop_succ, List.take_append_of_le_length (by rw [List.length_take]; omega), List.take_take, Nat.min_eq_left hj]
  · rw [List.eraseIdx_of_length_le (by omega)]
theorem lf_lo (hi : i < L.length) {j : Nat} (hj : j ≤ i) (h1 : j < ((lf m L).eraseIdx (i + 1)).length) (h2 : j < (lf m (L.eraseIdx i)).length) : ((lf m L).eraseIdx (i + 1))[j] = (lf m (L.eraseIdx i))[j] := by
  rw [List.getElem_eraseIdx, dif_pos (by omega), lf_get, lf_get, take_erase_lo hj]
theorem lf_hi (hi : i < L.length) (hx : L[i] = x) {j : Nat} (hj : i < j) (h1 : j < ((lf m L).eraseIdx (i + 1)).length) (h2 : j < (lf m (L.eraseIdx i)).length) : ((lf m L).eraseIdx (i + 1))[j] - (if x < m then 1 else 0) = (lf m (L.eraseIdx i))[j] := by
  have e1 : (L.take (j + 1)).countP (fun i => decide (i < m)) = ((L.eraseIdx i).take j).countP (fun i => decide (i < m)) + (if x < m then 1 else 0) := by
    have e2 : (L.eraseIdx i).take j = (L.take (j + 1)).eraseIdx i := by
      rw [List.eraseIdx_eq_take_drop_succ, List.eraseIdx_eq_take_drop_succ, List.take_append, List.take_take, List.length_take, List.take_take, List.drop_take]
      rw [show min j i = i by omega, show min i (j + 1) = i by omega, show j - min i L.length = j + 1 - (i + 1) by omega]
    rw [e2, List.eraseIdx_eq_take_drop_succ, List.countP_append]
    have hlt : i < (L.take (j + 1)).length := by rw [List.length_take]; omega
    have e3 : L.take (j + 1) = (L.take (j + 1)).take i ++ x :: (L.take (j + 1)).drop (i + 1) := by
      have e4 : (L.take (j + 1))[i] = x := by rw [List.getElem_take]; exact hx
      rw [← e4, List.getElem_cons_drop, List.take_append_drop]
    conv => lhs; rw [e3]
    rw [List.countP_append, List.countP_cons]
    by_cases h : x < m <;> simp [h] <;> omega
  rw [List.getElem_eraseIdx, dif_neg (by omega), lf_get, lf_get, e1]
  split <;> simp
theorem lf_went (hi : i < L.length) (hx : L[i] = x) (h1 : i + 1 < (lf m L).length) (h2 : i < (lf m L).length) : (lf m L)[i + 1] - (lf m L)[i] = if x < m then 1 else 0 := by
  rw [lf_get, lf_get, List.take_succ_eq_append_getElem hi, List.countP_append, hx]
  by_cases h : x < m <;> simp [h] <;> omega
/-- the left counts while they are made less: those ahead of j are done -/
def lfS (m : Nat) (L : List Nat) (i j : Nat) : List Int := (lf m (L.eraseIdx i)).take j ++ ((lf m L).eraseIdx (i + 1)).drop j
theorem lfS_first (hi : i < L.length) : lfS m L i (i + 1) = (lf m L).eraseIdx (i + 1) := by
  have h1 := lfE_len (m := m) hi
  have h2 := lfX_len (m := m) hi
  unfold lfS
  have e : (lf m (L.eraseIdx i)).take (i + 1) = ((lf m L).eraseIdx (i + 1)).take (i + 1) := by
    refine List.ext_getElem (by simp [h1, h2]) fun j a1 a2 => ?_
    rw [List.getElem_take, List.getElem_take]
    rw [List.length_take] at a1
    exact (lf_lo hi (by omega) _ _).symm
  rw [e, List.take_append_drop]
theorem lfS_last (hi : i < L.length) : lfS m L i L.length = lf m (L.eraseIdx i) := by
  have h1 := lfE_len (m := m) hi
  have h2 := lfX_len (m := m) hi
  unfold lfS
  rw [List.take_of_length_le (by omega), List.drop_of_length_le (by omega), List.append_nil]
theorem lfS_len (hi : i < L.length) {j : Nat} (hj : j ≤ L.length) : (lfS m L i j).length = L.length := by
  have h1 := lfE_len (m := m) hi
  have h2 := lfX_len (m := m) hi
  unfold lfS
  rw [List.length_append, List.length_take, List.length_drop]
  omega
theorem lfS_get (hi : i < L.length) {j : Nat} (hj : j < L.length) : (lfS m L i j)[j]'(by rw [lfS_len hi (by omega)]; exact hj) = ((lf m L).eraseIdx (i + 1))[j]'(by rw [lfE_len hi]; exact hj) := by
  have h2 := lfX_len (m := m) hi
  simp only [lfS]
  rw [List.getElem_append_right (by rw [List.length_take]; omega), List.getElem_drop]
  congr 1
  rw [List.length_take]
  omega
theorem lfS_step (hi : i < L.length) (hx : L[i] = x) {j : Nat} (hij : i < j) (hj : j < L.length) : (lfS m L i j).set j ((lfS m L i j)[j]'(by rw [lfS_len hi (by omega)]; exact hj) - (if x < m then 1 else 0)) = lfS m L i (j + 1) := by
  have h1 := lfE_len (m := m) hi
  have h2 := lfX_len (m := m) hi
  rw [lfS_get hi hj, lf_hi hi hx hij (by omega) (by omega)]
  unfold lfS
  rw [List.set_append_right _ _ (by rw [List.length_take]; omega), List.length_take, show j - min j (lf m (L.eraseIdx i)).length = 0 by omega]
  rw [List.take_succ_eq_append_getElem (by omega), List.append_assoc]
  congr 1
  rw [List.drop_eq_getElem_cons (by omega)]
  rfl
end

namespace FT
theorem subs_rng : ∀ (t : FT) (s : Nat), t.wf → ∀ p ∈ t.subs s, t.lo ≤ p.1.lo ∧ p.1.hi ≤ t.hi
  | leaf a, s, h, p, hp => by
    have : p = (leaf a, s) := by simpa [subs] using hp
    subst this; exact ⟨Nat.le_refl _, Nat.le_refl _⟩
  | node l r, s, h, p, hp => by
    simp only [subs, List.mem_append, List.mem_singleton] at hp
    have h1 := lo_hi r h.2.1
    have h3 := lo_hi l h.1
    have h2 := h.2.2
    show l.lo ≤ _ ∧ _ ≤ r.hi
    rcases hp with (hp | hp) | hp
    · have := subs_rng l s h.1 p hp; omega
    · have := subs_rng r _ h.2.1 p hp; omega
    · subst hp; exact ⟨Nat.le_refl _, Nat.le_refl _⟩
/-- a node that holds a place is on its path -/
theorem path_mem : ∀ (t : FT) (s x : Nat), t.wf → ∀ p ∈ t.subs s, p.1.lo ≤ x → x < p.1.hi → p.1.root p.2 ∈ t.path s x
  | leaf a, s, x, h, p, hp, h1, h2 => by
    have : p = (leaf a, s) := by simpa [subs] using hp
    subst this; simp [path, root, size]
  | node l r, s, x, h, p, hp, h1, h2 => by
    simp only [subs, List.mem_append, List.mem_singleton] at hp
    rw [path]
    rcases hp with (hp | hp) | hp
    · have := subs_rng l s h.1 p hp
      rw [if_pos (by omega)]
      exact List.mem_cons_of_mem _ (path_mem l s x h.1 p hp h1 h2)
    · have := subs_rng r _ h.2.1 p hp
      have := h.2.2
      rw [if_neg (by omega)]
      exact List.mem_cons_of_mem _ (path_mem r _ x h.2.1 p hp h1 h2)
    · subst hp; exact List.mem_cons_self
/-- what is on the path holds the place -/
theorem mem_path : ∀ (t : FT) (s x : Nat), t.wf → t.lo ≤ x → x < t.hi → ∀ k ∈ t.path s x, ∃ p ∈ t.subs s, p.1.root p.2 = k ∧ p.1.lo ≤ x ∧ x < p.1.hi
  | leaf a, s, x, h, h1, h2, k, hk => by
    have : k = s := by simpa [path] using hk
    subst this
    exact ⟨(leaf a, k), by simp [subs], by simp [root, size], h1, h2⟩
  | node l r, s, x, h, h1, h2, k, hk => by
    rw [path, List.mem_cons] at hk
    have h3 := h.2.2
    rcases hk with rfl | hk
    · exact ⟨(node l r, s), by simp [subs], rfl, h1, h2⟩
    · split at hk
      · rename_i hx
        obtain ⟨p, hp, e⟩ := mem_path l s x h.1 h1 hx k hk
        exact ⟨p, by simp [subs, hp], e⟩
      · rename_i hx
        obtain ⟨p, hp, e⟩ := mem_path r _ x h.2.1 (by omega) h2 k hk
        exact ⟨p, by simp [subs, hp], e⟩
/-- the path goes down -/
theorem path_down : ∀ (t : FT) (s x : Nat), t.wf → t.lo ≤ x → x < t.hi → (t.path s x).Pairwise (· > ·)
  | leaf a, s, x, h, h1, h2 => by simp [path]
  | node l r, s, x, h, h1, h2 => by
    have h3 := h.2.2
    have hle : ∀ (t : FT) (s : Nat), ∀ p ∈ t.subs s, p.1.root p.2 ≤ t.root s := fun t s p hp => by
      have := subs_in t s p hp
      have := p.1.size_pos
      have := t.size_pos
      unfold root
      omega
    have hkk := kids_ne l r s
    by_cases hx : x < l.hi
    · rw [path, if_pos hx, List.pairwise_cons]
      refine ⟨fun k hk => ?_, path_down l s x h.1 h1 hx⟩
      obtain ⟨p, hp, e, -⟩ := mem_path l s x h.1 h1 hx k hk
      have := hle l s p hp
      omega
    · have hrl : r.lo ≤ x := by omega
      rw [path, if_neg hx, List.pairwise_cons]
      refine ⟨fun k hk => ?_, path_down r _ x h.2.1 hrl h2⟩
      obtain ⟨p, hp, e, -⟩ := mem_path r _ x h.2.1 hrl h2 k hk
      have := hle r _ p hp
      omega
end FT

theorem CscWF.drop {R : List Pt} {gone : List Bool} {YS : List Nat} (h : CscWF R gone YS) {x : Nat} (hx : gone[x]? = some false) : CscWF R (gone.set x true) (outX YS x) := by
  have hl := (List.getElem?_eq_some_iff.1 hx).1
  refine ⟨h.rowX, h.ids, by rw [List.length_set]; exact h.glen, List.Pairwise.filter _ h.nodup, fun i => ?_, List.Pairwise.filter _ h.ysY⟩
  unfold outX
  rw [List.mem_filter, h.live, decide_eq_true_eq, List.getElem?_set]
  by_cases e : x = i
  · subst e
    simp [hl]
  · rw [if_neg e]
    exact ⟨fun h => h.1, fun h => ⟨h, fun e2 => e e2.symm⟩⟩
end Go.Proofs.YtggfdlanobndjaaGreat

/- What a cascade tells, in words of its points. No function of the program is walked here. -/
namespace Go.Proofs.YtggfdlanobndjaaGreat
open Go Go.RowKit
set_option linter.unusedVariables false

/-- does a box hold a point? -/
def inB (x1 x2 y1 y2 : Int) (p : Pt) : Bool := decide (x1 ≤ p.1 ∧ p.1 ≤ x2 ∧ y1 ≤ p.2.1 ∧ p.2.1 ≤ y2)
/-- the names of what a box has, rising -/
def hasB (l : List Pt) (x1 x2 y1 y2 : Int) : List Int := srtI (ids (l.filter (inB x1 x2 y1 y2)))

/-- the living points of a state -/
structure Lives (R : List Pt) (YS : List Nat) (l : List Pt) : Prop where
  nod : (ids l).Nodup
  mem : ∀ p, p ∈ l ↔ ∃ i ∈ YS, ptAt R i = p

theorem rkFirst_iff {l : List Int} (hs : l.Pairwise (· ≤ ·)) (x : Int) {i : Nat} (hi : i < l.length) : (rkFirst l x).1 ≤ i ↔ x ≤ l[i] := by
  obtain ⟨h1, h2, h3⟩ := bsrch_placeR (fun i => decide (x ≤ l.getD i 0)) l.length (fun i j hij hj hi => by
    by_cases e : i = j
    · exact e ▸ hi
    · have := List.pairwise_iff_getElem.1 hs i j (by omega) hj (by omega)
      simp [hj, show i < l.length by omega] at hi ⊢
      omega) l.length 0 l.length 0 (by omega) (by omega) (Nat.le_refl _) (by omega) (by omega)
  constructor
  · intro h
    have := h3 i h hi
    simpa [hi] using this
  · intro h
    by_cases h9 : (rkFirst l x).1 ≤ i
    · exact h9
    · have := h2 i (by unfold rkFirst at h9; omega)
      simp [hi] at this
      omega
theorem rkAbove_iff {l : List Int} (hs : l.Pairwise (· ≤ ·)) (x : Int) {i : Nat} (hi : i < l.length) : i < (rkAbove l x).1 ↔ l[i] ≤ x := by
  obtain ⟨h1, h2, h3⟩ := bsrch_placeR (fun i => decide (x < l.getD i 0)) l.length (fun i j hij hj hi => by
    by_cases e : i = j
    · exact e ▸ hi
    · have := List.pairwise_iff_getElem.1 hs i j (by omega) hj (by omega)
      simp [hj, show i < l.length by omega] at hi ⊢
      omega) l.length 0 l.length 0 (by omega) (by omega) (Nat.le_refl _) (by omega) (by omega)
  constructor
  · intro h
    have := h2 i h
    simpa [hi] using this
  · intro h
    by_cases h9 : i < (rkAbove l x).1
    · exact h9
    · have := h3 i (by unfold rkAbove at h9; omega) hi
      simp [hi] at this
      omega

theorem CscWF.xsS {R : List Pt} {gone : List Bool} {YS : List Nat} (h : CscWF R gone YS) : (xsR R).Pairwise (· ≤ ·) := List.pairwise_map.2 (h.rowX.imp fun h => by unfold ltX at h; omega)

section
variable {R : List Pt} {gone : List Bool} {YS : List Nat} {l : List Pt}
theorem ptAt_eq {i : Nat} (hi : i < R.length) : ptAt R i = R[i] := by simp [ptAt, hi]

/-- which places are told -/
theorem askR_mem (hW : CscWF R gone YS) (x1 x2 y1 y2 : Int) (i : Nat) : i ∈ (askR R YS x1 x2 y1 y2).1 ↔ i ∈ YS ∧ inB x1 x2 y1 y2 (ptAt R i) = true := by
  unfold askR
  split
  · rename_i h
    refine ⟨fun h9 => absurd h9 List.not_mem_nil, fun ⟨h1, h2⟩ => ?_⟩
    have hi := hW.lt h1
    rcases h with h | h | h
    · subst h; simp at hi
    · unfold inB at h2; simp at h2; omega
    · unfold inB at h2; simp at h2; omega
  · rename_i h
    have h0 : 0 < R.length := by
      cases R with
      | nil => simp at h
      | cons a b => simp
    have hyy : y1 ≤ y2 := by omega
    obtain ⟨w1, w2, w3⟩ := mkT_spec 0 R.length h0
    show i ∈ (down _ _ _ _ _ _ _).1 ↔ _
    rw [down_mem _ w1 hW.le hyy i, hW.top h0]
    refine and_congr_right fun hi => ?_
    have hl := hW.lt hi
    have hxl : i < (xsR R).length := by unfold xsR; simpa using hl
    have hxi : (xsR R)[i] = (ptAt R i).1 := by rw [ptAt_eq hl]; simp [xsR]
    rw [rkFirst_iff hW.xsS x1 hxl, rkAbove_iff hW.xsS x2 hxl, hxi]
    unfold inB yvR
    simp only [decide_eq_true_eq]

theorem askR_nodup (hW : CscWF R gone YS) (x1 x2 y1 y2 : Int) : (askR R YS x1 x2 y1 y2).1.Nodup := by
  unfold askR
  split
  · exact List.nodup_nil
  · rename_i h
    have h0 : 0 < R.length := by
      cases R with
      | nil => simp at h
      | cons a b => simp
    have hyy : y1 ≤ y2 := by omega
    obtain ⟨w1, w2, w3⟩ := mkT_spec 0 R.length h0
    exact down_nodup _ w1 hW.nodup hW.le hyy

theorem nmR_inj (hW : CscWF R gone YS) {i k : Nat} (hi : i < R.length) (hk : k < R.length) (e : nmR R i = nmR R k) : i = k := by
  unfold nmR at e
  rw [ptAt_eq hi, ptAt_eq hk] at e
  have hid := List.pairwise_map.1 hW.ids
  rcases Nat.lt_trichotomy i k with h | h | h
  · exact absurd e (List.pairwise_iff_getElem.1 hid i k hi hk h)
  · exact h
  · exact absurd e.symm (List.pairwise_iff_getElem.1 hid k i hk hi h)

theorem srtI_ext {a b : List Int} (ha : a.Nodup) (hb : b.Nodup) (h : ∀ x, x ∈ a ↔ x ∈ b) : srtI a = srtI b := by
  have hp : a.Perm b := (List.perm_ext_iff_of_nodup ha hb).2 h
  have s1 : (srtI a).Pairwise (· ≤ ·) := (List.pairwise_mergeSort (le := fun x y : Int => decide (x ≤ y)) (fun a b c h1 h2 => by simp at *; omega) (fun a b => by simp; omega) a).imp (fun h => by simpa using h)
  have s2 : (srtI b).Pairwise (· ≤ ·) := (List.pairwise_mergeSort (le := fun x y : Int => decide (x ≤ y)) (fun a b c h1 h2 => by simp at *; omega) (fun a b => by simp; omega) b).imp (fun h => by simpa using h)
  exact List.Perm.eq_of_pairwise (fun x y _ _ h1 h2 => by omega) s1 s2 (((List.mergeSort_perm a _).trans hp).trans (List.mergeSort_perm b _).symm)

/-- what is told are the names of the box's points -/
theorem askR_names (hW : CscWF R gone YS) (hl : Lives R YS l) (x1 x2 y1 y2 : Int) : srtI ((askR R YS x1 x2 y1 y2).1.map (nmR R)) = hasB l x1 x2 y1 y2 ∧ (askR R YS x1 x2 y1 y2).1.length = (l.filter (inB x1 x2 y1 y2)).length := by
  have hn1 : ((askR R YS x1 x2 y1 y2).1.map (nmR R)).Nodup := by
    refine List.pairwise_map.2 (List.Pairwise.imp_of_mem (fun {i k} hi hk h e => h ?_) (askR_nodup hW x1 x2 y1 y2))
    exact nmR_inj hW (hW.lt ((askR_mem hW x1 x2 y1 y2 i).1 hi).1) (hW.lt ((askR_mem hW x1 x2 y1 y2 k).1 hk).1) e
  have hn2 : (ids (l.filter (inB x1 x2 y1 y2))).Nodup := by
    have h := List.pairwise_map.1 hl.nod
    exact List.pairwise_map.2 (List.Pairwise.filter _ h)
  have hm : ∀ x, x ∈ (askR R YS x1 x2 y1 y2).1.map (nmR R) ↔ x ∈ ids (l.filter (inB x1 x2 y1 y2)) := fun x => by
    unfold ids
    rw [List.mem_map, List.mem_map]
    constructor
    · rintro ⟨i, hi, rfl⟩
      obtain ⟨h1, h2⟩ := (askR_mem hW x1 x2 y1 y2 i).1 hi
      exact ⟨ptAt R i, List.mem_filter.2 ⟨(hl.mem _).2 ⟨i, h1, rfl⟩, h2⟩, rfl⟩
    · rintro ⟨p, hp, rfl⟩
      obtain ⟨h1, h2⟩ := List.mem_filter.1 hp
      obtain ⟨i, hi, rfl⟩ := (hl.mem p).1 h1
      exact ⟨i, (askR_mem hW x1 x2 y1 y2 i).2 ⟨hi, h2⟩, rfl⟩
  refine ⟨srtI_ext hn1 hn2 hm, ?_⟩
  have := ((List.perm_ext_iff_of_nodup hn1 hn2).2 hm).length_eq
  unfold ids at this
  simpa using this

theorem Lives.len (hW : CscWF R gone YS) (hl : Lives R YS l) : YS.length = l.length := by
  have hn1 : (YS.map (nmR R)).Nodup := List.pairwise_map.2 (List.Pairwise.imp_of_mem (fun {i k} hi hk h e => h (nmR_inj hW (hW.lt hi) (hW.lt hk) e)) hW.nodup)
  have hm : ∀ x, x ∈ YS.map (nmR R) ↔ x ∈ ids l := fun x => by
    unfold ids
    rw [List.mem_map, List.mem_map]
    constructor
    · rintro ⟨i, hi, rfl⟩; exact ⟨_, (hl.mem _).2 ⟨i, hi, rfl⟩, rfl⟩
    · rintro ⟨p, hp, rfl⟩
      obtain ⟨i, hi, rfl⟩ := (hl.mem p).1 hp
      exact ⟨i, hi, rfl⟩
  have := ((List.perm_ext_iff_of_nodup hn1 hl.nod).2 hm).length_eq
  unfold ids at this
  simpa using this

/-- one is dropped -/
theorem Lives.drop (hW : CscWF R gone YS) (hl : Lives R YS l) {x : Nat} (hx : x < R.length) (hY : x ∈ YS) : Lives R (outX YS x) (l.filter fun p => decide (p ≠ R[x])) := by
  refine ⟨List.pairwise_map.2 (List.Pairwise.filter _ (List.pairwise_map.1 hl.nod)), fun p => ?_⟩
  rw [List.mem_filter, decide_eq_true_eq, hl.mem]
  unfold outX
  constructor
  · rintro ⟨⟨i, hi, rfl⟩, h2⟩
    refine ⟨i, List.mem_filter.2 ⟨hi, ?_⟩, rfl⟩
    rw [decide_eq_true_eq]
    rintro rfl
    exact h2 (ptAt_eq hx)
  · rintro ⟨i, hi, rfl⟩
    obtain ⟨h1, h2⟩ := List.mem_filter.1 hi
    refine ⟨⟨i, h1, rfl⟩, fun e => ?_⟩
    rw [decide_eq_true_eq] at h2
    apply h2
    have hil := hW.lt h1
    refine nmR_inj hW hil hx ?_
    unfold nmR
    rw [e, ptAt_eq hx]
end

/-- all points live once the tree is built -/
theorem lives_first {l : List Pt} (hu : (ids l).Nodup) (YS : List Nat) (h : ∀ i, i ∈ YS ↔ i < (srtX l).length) : Lives (srtX l) YS l := by
  refine ⟨hu, fun p => ?_⟩
  rw [← srtX_mem]
  constructor
  · intro hp
    obtain ⟨i, hi, e⟩ := List.getElem_of_mem hp
    exact ⟨i, (h i).2 hi, by rw [ptAt_eq hi]; exact e⟩
  · rintro ⟨i, hi, rfl⟩
    have := (h i).1 hi
    rw [ptAt_eq this]
    exact List.getElem_mem this
end Go.Proofs.YtggfdlanobndjaaGreat

/- gridironref08.Sorted: names put in order, one by one. -/
namespace Go.Proofs.YtggfdlanobndjaaGreat
open Go.RowKit
attribute [local irreducible] wpQuiet
set_option linter.unusedSimpArgs false
set_option linter.unusedVariables false

theorem elU32s : ElemOK Tryz.prog 40 32 1 4 := .mk' (z := .int .u32 0) Tryz.underlying40 (by kernel_rfl) rfl (by decide)

theorem srtI_sorted (l : List Int) : (srtI l).Pairwise (· ≤ ·) :=
  (List.pairwise_mergeSort (le := fun x y : Int => decide (x ≤ y)) (fun a b c h1 h2 => by simp at *; omega) (fun a b => by simp; omega) l).imp (fun h => by simpa using h)

theorem srtI_of {l S : List Int} (hs : S.Pairwise (· ≤ ·)) (hp : S.Perm l) : srtI l = S :=
  List.Perm.eq_of_pairwise (fun x y _ _ h1 h2 => by omega) (srtI_sorted l) hs ((List.mergeSort_perm l _).trans hp.symm)

theorem srtI_put {l : List Int} {i k : Nat} (hi : i < l.length) (S : List Int) (hS : S = srtI (l.take i)) (hk : k ≤ S.length) (h1 : ∀ y ∈ S.drop k, l[i] ≤ y) (h2 : k = 0 ∨ ∃ h : k - 1 < S.length, S[k - 1] ≤ l[i]) : insA S k l[i] = srtI (l.take (i + 1)) := by
  have hs : S.Pairwise (· ≤ ·) := by rw [hS]; exact srtI_sorted _
  refine (srtI_of (insA_pairwise hs h1 ?_) ?_).symm
  · intro y hy
    obtain ⟨t, ht, rfl⟩ := List.getElem_of_mem hy
    rw [List.getElem_take]
    simp at ht
    rcases h2 with h2 | ⟨h, h2⟩
    · omega
    · by_cases e : t = k - 1
      · subst e; exact h2
      · have := List.pairwise_iff_getElem.1 hs t (k - 1) (by omega) h (by omega)
        omega
  · rw [List.take_succ_eq_append_getElem hi]
    refine (insA_perm S k l[i]).trans (List.Perm.append_right _ ?_)
    rw [hS]
    exact List.mergeSort_perm _ _

set_option maxRecDepth 100000 in
set_option maxHeartbeats 4000000 in
theorem ref8_sorted (a : Option Addr) (l : List Int) (n c : Nat) (w : World) (hn : l.length = n) (h : Rd (.int .u32) w a l) (hl : n ≤ 1000000) :
    Calls Tryz.prog 87 #[.slice a n c] w fun e w' => ∃ v, e = .returned v ∧ w'.ownsRow w.heap.size 32 1 v l.length ((srtI l).map (.int .u32)) ∧ Below w.heap.size w w' := by
  subst hn
  have H := Lib.hid h
  clear h
  go_enter Tryz.func87, Tryz.ntmps87
  go_wp2
  go_loopw [3, 4] (fun v iv wr => ∃ (i : Nat) (S : List Int), iv = .int .i64 i ∧ i ≤ l.length ∧ S.length = i ∧ Hid (S = srtI (l.take i)) ∧ Hid (wr.ownsRow w.heap.size 32 1 v S.length (S.map (.int .u32))) ∧ Below w.heap.size w wr) (fun _ iv _ => l.length - (intOf iv).toNat)
  case atStart => exact ⟨0, [], rfl, Nat.zero_le _, rfl, by simp [srtI, Hid], World.ownsRow_nil _ _ _ _, Below.refl _ _⟩
  case round =>
    obtain ⟨i, S, rfl, hi, hSi, HS, HO, hb⟩ := hrel
    by_cases hlt : i < l.length
    · obtain ⟨av, cv, rfl, -, -, -⟩ := Rd.of_owns HO.out
      obtain ⟨b, off, ea, hbl, hc⟩ := H.out.get (by omega)
      have hxc := hc i hlt
      have HPUT : Hid (∀ k, k ≤ S.length → (∀ y ∈ S.drop k, l[i] ≤ y) → (k = 0 ∨ ∃ h : k - 1 < S.length, S[k - 1] ≤ l[i]) → insA S k l[i] = srtI (l.take (i + 1))) := fun k h1 h2 h3 => srtI_put hlt S HS.out h1 h2 h3
      clear hc HS
      generalize l[i] = x at *
      subst ea
      have hsw := hb.size
      have hx := (hb.cell (p := ⟨b, off + i, none⟩) hbl).trans hxc
      go_wp2_with (at_builtin; refine wp_append1 elU32s w.heap.size HO.out [.int .u32 x] rfl (by simp [Value.oneCell']) rfl _ _ rfl rfl _ rfl (by unfold maxLen; omega) (by omega) (by omega) ?_; intro v' w6 hown' hg; have b6 := below_grown hb HO.out hg hsw (Nat.le_refl _); obtain ⟨g, cv', rfl, hg1, hg2, hg3, hg4⟩ := ownRow_at hown' (by omega))
      have HO6 : Hid (w6.ownsRow w.heap.size 32 1 (.slice (some ⟨g, 0, none⟩) (S.length + 1) cv') (S.length + 1) ((insA S S.length x).map (Value.int .u32))) := by
        have e1 := insA_top S (x : Int)
        show w6.ownsRow _ _ _ _ _ _
        rw [e1, List.map_append]
        exact hown'
      clear hown' hg HO hb hx
      unfold maxLen at hg4
      go_loopw [5] (fun jv wr => ∃ (j : Nat) (z : Int), jv = .int .i64 j ∧ j ≤ S.length ∧ Hid (∀ y ∈ S.drop j, x ≤ y) ∧ Hid (wr.ownsRow w.heap.size 32 1 (.slice (some ⟨g, 0, none⟩) (S.length + 1) cv') (S.length + 1) ((insA S j z).map (Value.int .u32))) ∧ Below w.heap.size w wr) (fun jv _ => (intOf jv).toNat)
      case atStart => exact ⟨S.length, x, by go_num, Nat.le_refl _, by simp [Hid], HO6, b6⟩
      case round =>
        clear b6 HO6
        obtain ⟨j, z, rfl, hj2, HD, HO, hb⟩ := hrel
        have hil := insA_len S j z hj2
        have hx := (hb.cell (p := ⟨b, off + i, none⟩) hbl).trans hxc
        have c1 := HO.out.cellAt j (by omega)
        have f1 := HO.out.frozenAt j
        rw [List.getElem?_map, List.getElem?_eq_getElem (by omega), insA_get S j z hj2, Option.map_some] at c1
        have HSX : Hid (((insA S j z).map (Value.int .u32)).set j (Value.int .u32 x) = (insA S j x).map (Value.int .u32)) := by
          show _ = _
          rw [← insA_set S j z x hj2, List.map_set]
        by_cases hj0 : 0 < j
        · have c2 := HO.out.cellAt (j - 1) (by omega)
          rw [List.getElem?_map, List.getElem?_eq_getElem (by omega), insA_prev S j z (by omega) hj2, Option.map_some] at c2
          have HSW : Hid (((insA S j z).map (Value.int .u32)).set j (Value.int .u32 S[j - 1]) = (insA S (j - 1) S[j - 1]).map (Value.int .u32)) := by
            show _ = _
            rw [← insA_shift S j z (by omega) hj2, List.map_set]
          have e1 : ((j : Int) - 1).toNat = j - 1 := by omega
          have g0 : (0 : Int) ≤ (j : Int) - 1 := by omega
          have g2 : (j : Int) < (S.length : Int) + 1 := by omega
          have g3 : (j : Int) - 1 ≤ (S.length : Int) := by omega
          have g4 : (j : Int) ≤ (S.length : Int) + 1 := by omega
          have g5 : (1 : Int) ≤ (j : Int) := by omega
          have g6 : j ≤ S.length + 1 := by omega
          have g7 : 1 ≤ j := by omega
          have g8 : decide (0 < j) = true := by simp [hj0]
          by_cases hlt2 : x < S[j - 1]
          · have HD2 : Hid (∀ y ∈ S.drop (j - 1), x ≤ y) := by
              intro y hy
              rw [List.drop_eq_getElem_cons (by omega), show j - 1 + 1 = j by omega] at hy
              rcases List.mem_cons.1 hy with h | h
              · omega
              · exact HD.out y h
            have d1 : decide (x < S[j - 1]) = true := by simp [hlt2]
            clear HD hlt2 HPUT
            generalize S[j - 1] = y at *
            go_wp2
            go_quiet (fail)
            go_wp2
            go_roundw
            case rel =>
              refine ⟨j - 1, y, by go_num, by omega, HD2, ?_, (hb.trans (Below.drewAny _ _)).setCell hg1 _⟩
              show World.ownsRow _ _ _ _ _ _ _
              rw [← HSW.out]
              exact ((HO.out.drewAny _).stored j _).1
            case measure => simp [intOf]; omega
          · have d1 : decide (x < S[j - 1]) = false := by simp; omega
            have HP := Lib.hid (HPUT.out j hj2 HD.out (.inr ⟨by omega, by omega⟩))
            clear HSW HD hlt2 HPUT
            generalize S[j - 1] = y at *
            go_wp2
            go_quiet (fail)
            go_wp2
            go_roundw
            case rel =>
              refine ⟨i + 1, insA S j x, by go_num, by omega, by rw [insA_len S j x hj2]; omega, HP, ?_, (hb.trans (Below.drewAny _ _)).setCell hg1 _⟩
              show World.ownsRow _ _ _ _ _ _ _
              rw [← HSX.out, insA_len S j x hj2, show i + 1 = S.length + 1 by omega]
              exact ((HO.out.drewAny _).stored j _).1
            case measure => simp [intOf]; omega
        · obtain rfl : j = 0 := by omega
          have HP := Lib.hid (HPUT.out 0 hj2 HD.out (.inl rfl))
          clear HD HPUT
          go_wp2
          go_quiet (fail)
          go_wp2
          go_roundw
          case rel =>
            refine ⟨i + 1, insA S 0 x, by go_num, by omega, by rw [insA_len S 0 x hj2]; omega, HP, ?_, (hb.trans (Below.drewAny _ _)).setCell hg1 _⟩
            show World.ownsRow _ _ _ _ _ _ _
            rw [← HSX.out, insA_len S 0 x hj2, show i + 1 = S.length + 1 by omega]
            exact ((HO.out.drewAny _).stored 0 _).1
          case measure => simp [intOf]; omega
    · obtain rfl : i = l.length := by omega
      have HS2 := HS.out
      rw [List.take_length] at HS2
      go_wp2
      go_ret
      exact ⟨_, rfl, by rw [← HS2, hSi.symm]; exact HO.out, hb⟩
end Go.Proofs.YtggfdlanobndjaaGreat

/- rank.Log: what it answers (for a seat without the Rank texts). -/
namespace Go.Proofs.YtggfdlanobndjaaGreat
open Go.RowKit

def rkLog (n : Int) : Nat := if n < 2 then 0 else Lib.bitLen (n - 1).toNat

set_option maxHeartbeats 400000 in
theorem rLog (n : Int) (w : World) (h1 : n ≤ 9223372036854775807) :
    Calls Tryz.prog 26 #[.int .i64 n] w fun e w' => e = .returned (.int .i64 (rkLog n)) ∧ Below w.heap.size w w' := by
  unfold rkLog
  by_cases h : n < 2
  · rw [if_pos h]
    go_enter Tryz.func26, Tryz.ntmps26
    go_wp2
    go_ret
    exact ⟨rfl, Below.refl _ _⟩
  · rw [if_neg h]
    have hc := Tryz.bits_Len (n - 1) w (by omega) (by omega)
    generalize Lib.bitLen (n - 1).toNat = r at *
    replace hc := Lib.hid hc
    go_enter Tryz.func26, Tryz.ntmps26
    go_wp2_with (go_at_call 62; refine hc.out.mono ?_; rintro e w' ⟨rfl, rfl⟩)
    go_ret
    exact ⟨rfl, Below.refl _ _⟩

theorem bitLen_pos_bounds (x : Nat) (h : x < 2 ^ 64) (h0 : x ≠ 0) : 1 ≤ Lib.bitLen x ∧ 2 ^ (Lib.bitLen x - 1) ≤ x ∧ x < 2 ^ Lib.bitLen x := Lib.bitLenAux_bounds 64 x h h0

theorem bitLen_zero : Lib.bitLen 0 = 0 := rfl

theorem bitLen_mono {a b : Nat} (hab : a ≤ b) (h : b < 2 ^ 64) : Lib.bitLen a ≤ Lib.bitLen b := by
  by_cases h0 : a = 0
  · subst h0; rw [bitLen_zero]; exact Nat.zero_le _
  · have ha := bitLen_pos_bounds a (by omega) h0
    have hb := bitLen_pos_bounds b h (by omega)
    have := (Nat.pow_lt_pow_iff_right (by decide : 1 < 2)).1 (Nat.lt_of_le_of_lt ha.2.1 (Nat.lt_of_le_of_lt hab hb.2.2))
    omega


theorem rkLog_succ (n : Nat) (h : n < 2 ^ 62) : rkLog ((n : Int) + 1) = Lib.bitLen n := by
  unfold rkLog
  by_cases h0 : n = 0
  · subst h0; rfl
  · rw [if_neg (by omega)]
    congr 1
    omega

/-- half of it, or less, is a bit shorter -/
theorem bitLen_less {d e : Nat} (hd : 0 < d) (h : d < 2 ^ 62) (he : e ≤ d / 2) : Lib.bitLen e + 1 ≤ Lib.bitLen d := by
  have e1 : Lib.bitLen d = 1 + Lib.bitLen (d / 2) := Lib.bitLen_half _ (by omega) (by omega)
  have e2 := bitLen_mono he (by omega)
  omega

end Go.Proofs.YtggfdlanobndjaaGreat

/- What a cascade touches. No function of the program is walked here. -/
namespace Go.Proofs.YtggfdlanobndjaaGreat
open Go Go.RowKit
set_option linter.unusedVariables false

/-- so many are looked at -/
theorem bsrch_most (p : Nat → Bool) : ∀ (f lo hi k : Nat), hi - lo ≤ f → hi - lo < 1000000 → (bsrch p f lo hi k).2 ≤ k + Lib.bitLen (hi - lo) := by
  intro f
  induction f with
  | zero =>
    intro lo hi k h1 _
    simp only [bsrch]
    omega
  | succ f ih =>
    intro lo hi k h1 h2
    simp only [bsrch]
    by_cases h : lo < hi
    · rw [if_pos h]
      have e1 : Lib.bitLen (hi - lo) = 1 + Lib.bitLen ((hi - lo) / 2) := Lib.bitLen_half _ (by omega) (by omega)
      split
      · have := ih lo (lo + (hi - lo) / 2) (k + 1) (by omega) (by omega)
        rw [show lo + (hi - lo) / 2 - lo = (hi - lo) / 2 by omega] at this
        omega
      · have := ih (lo + (hi - lo) / 2 + 1) hi (k + 1) (by omega) (by omega)
        have e4 : Lib.bitLen (hi - (lo + (hi - lo) / 2 + 1)) ≤ Lib.bitLen ((hi - lo) / 2) := bitLen_mono (by omega) (by omega)
        omega
    · rw [if_neg h]
      simp

theorem rkFirst_looks (l : List Int) (x : Int) (h : l.length < 1000000) : (rkFirst l x).2 ≤ Lib.bitLen l.length := by
  have := bsrch_most (fun i => decide (x ≤ l.getD i 0)) l.length 0 l.length 0 (by omega) (by omega)
  simpa [rkFirst] using this
theorem rkAbove_looks (l : List Int) (x : Int) (h : l.length < 1000000) : (rkAbove l x).2 ≤ Lib.bitLen l.length := by
  have := bsrch_most (fun i => decide (x < l.getD i 0)) l.length 0 l.length 0 (by omega) (by omega)
  simpa [rkAbove] using this

section
variable {R : List Pt} {gone : List Bool} {YS : List Nat}
theorem CscWF.lenY (h : CscWF R gone YS) : YS.length ≤ R.length := by
  have hp : YS.Perm ((List.range R.length).filter fun i => decide (i ∈ YS)) := (List.perm_ext_iff_of_nodup h.nodup (List.nodup_range.filter _)).2 fun i => by
    rw [List.mem_filter, List.mem_range, decide_eq_true_eq]
    exact ⟨fun hi => ⟨h.lt hi, hi⟩, fun hi => hi.2⟩
  rw [hp.length_eq]
  exact Nat.le_trans (List.length_filter_le _ _) (by simp)

theorem askR_cost (hW : CscWF R gone YS) (hR : R.length ≤ 100000) (x1 x2 y1 y2 : Int) : (askR R YS x1 x2 y1 y2).2 ≤ 8 * Lib.bitLen R.length + 1 := by
  unfold askR
  split
  · exact Nat.zero_le _
  · rename_i h
    have h0 : 0 < R.length := by
      cases R with
      | nil => simp at h
      | cons a b => simp
    obtain ⟨w1, w2, w3⟩ := mkT_spec 0 R.length h0
    have ly := hW.lenY
    have a1 := rkFirst_looks (xsR R) x1 (by simp [xsR]; omega)
    have a2 := rkAbove_looks (xsR R) x2 (by simp [xsR]; omega)
    have a3 := rkFirst_looks (ysR R YS) y1 (by simp [ysR]; omega)
    have a4 := rkAbove_looks (ysR R YS) y2 (by simp [ysR]; omega)
    rw [show (xsR R).length = R.length by simp [xsR]] at a1 a2
    rw [show (ysR R YS).length = YS.length by simp [ysR]] at a3 a4
    have a5 := bitLen_mono ly (by omega)
    have hb := (bitLen_pos_bounds R.length (by omega) (by omega)).2.2
    have h2 := mkT_ht 0 R.length (Lib.bitLen R.length) (by omega)
    have h3 := @down_cost YS (yvR R) y1 y2 (rkFirst (xsR R) x1).1 (rkAbove (xsR R) x2).1 (mkT 0 R.length) w1 0
    have h4 := FT.canon_cost (mkT 0 R.length) w1 0 (rkFirst (xsR R) x1).1 (rkAbove (xsR R) x2).1
    show _ + _ + _ + _ + _ ≤ _
    omega
end
end Go.Proofs.YtggfdlanobndjaaGreat

/- Maps from integers to integers, as functions (for a seat without the Rank texts). No function of the program is walked here. -/
namespace Go.Proofs.YtggfdlanobndjaaGreat
open Go.RowKit Go.Maps

theorem nodup_le : ∀ (a b : List Int), a.Nodup → (∀ x ∈ a, x ∈ b) → a.length ≤ b.length
  | [], b, _, _ => Nat.zero_le _
  | x :: a, b, h, hs => by
    rw [List.nodup_cons] at h
    have hx := hs x (by simp)
    have h2 : ∀ y ∈ a, y ∈ b.erase x := by
      intro y hy
      have hne : y ≠ x := fun e => h.1 (e ▸ hy)
      exact (List.mem_erase_of_ne hne).2 (hs y (by simp [hy]))
    have := nodup_le a (b.erase x) h.2 h2
    rw [List.length_erase_of_mem hx] at this
    have : 0 < b.length := List.length_pos_of_mem hx
    simp only [List.length_cons]
    omega

/-- a map's datum D is the function f; s: its keys, each once -/
def IsM {H : Type} (kk vk : IntKind) (D : DataW H) (f : Int → Option Int) (s : List Int) : Prop :=
  Tidy D ∧ Maps.size D = s.length ∧ s.Nodup ∧ (∀ x, x ∈ s ↔ (f x).isSome = true) ∧
    ∀ x, has D (.int kk x) = (f x).isSome ∧ ∀ z, D.atKey (.int kk x) z = (match f x with | none => z | some v => .lit (.int vk v))

def putF (f : Int → Option Int) (x v : Int) : Int → Option Int := fun y => if y = x then some v else f y

theorem IsM.empty {H : Type} (kk vk : IntKind) : IsM (H := H) kk vk (.map []) (fun _ => none) [] :=
  ⟨tidy_empty, rfl, List.nodup_nil, by simp, fun x => ⟨rfl, fun z => rfl⟩⟩

theorem IsM.put {H : Type} {kk vk : IntKind} {D : DataW H} {f : Int → Option Int} {s : List Int} (h : IsM kk vk D f s) (x v : Int) :
    IsM kk vk (D.put (.int kk x) (.lit (.int vk v))) (putF f x v) (if x ∈ s then s else s ++ [x]) := by
  obtain ⟨h1, h2, h3, h4, h5⟩ := h
  have hk : WideAt.IsKeyLit (Lit.int kk x) := trivial
  refine ⟨h1.put hk _, ?_, ?_, ?_, ?_⟩
  · rw [size_put h1, (h5 x).1]
    by_cases hx : x ∈ s
    · rw [if_pos hx, if_pos ((h4 x).1 hx), h2]
    · rw [if_neg hx, if_neg (fun h => hx ((h4 x).2 h)), h2, List.length_append]; rfl
  · by_cases hx : x ∈ s
    · rw [if_pos hx]; exact h3
    · rw [if_neg hx, List.nodup_append]
      exact ⟨h3, by simp, fun a ha b hb => by simp at hb; subst hb; exact fun e => hx (e ▸ ha)⟩
  · intro y
    unfold putF
    by_cases hy : y = x
    · subst hy
      by_cases hx : y ∈ s <;> simp [hx]
    · by_cases hx : x ∈ s <;> simp [hx, hy, h4]
  · intro y
    unfold putF
    by_cases hy : y = x
    · subst hy
      exact ⟨by simpa using has_put_same h1.isMap hk _, fun z => by simpa using atKey_put_same h1.isMap hk _ z⟩
    · have hne : (Lit.int kk y) ≠ (.int kk x) := fun e => hy (by injection e)
      exact ⟨by rw [has_put_other hne]; simpa [hy] using (h5 y).1, fun z => by rw [atKey_put_other hne]; simpa [hy] using (h5 y).2 z⟩

theorem nodup_same_len {a b : List Int} (ha : a.Nodup) (hb : b.Nodup) (h : ∀ x, x ∈ a ↔ x ∈ b) : a.length = b.length :=
  Nat.le_antisymm (nodup_le _ _ ha fun x hx => (h x).1 hx) (nodup_le _ _ hb fun x hx => (h x).2 hx)

/-- how often a number is there -/
def cntF (l : List Int) : Int → Option Int := fun x => if x ∈ l then some (l.count x : Nat) else none

theorem cntF_nil : cntF [] = fun _ => none := by funext x; simp [cntF]

theorem cntF_snoc (l : List Int) (x : Int) : cntF (l ++ [x]) = putF (cntF l) x ((l.count x : Nat) + 1) := by
  funext y
  unfold cntF putF
  by_cases hy : y = x
  · subst hy; simp
  · have : (List.count y [x]) = 0 := List.count_eq_zero.2 (by simp [hy])
    simp [hy, List.count_append, this]

/-- as many keys as numbers: each once -/
theorem nodup_of_len : ∀ (L s : List Int), s.Nodup → (∀ x, x ∈ s ↔ x ∈ L) → s.length = L.length → L.Nodup
  | [], _, _, _, _ => List.nodup_nil
  | x :: L, s, hs, hm, hl => by
    have hxs : x ∈ s := (hm x).2 (by simp)
    have hx : x ∉ L := fun hx => by
      have := nodup_le s L hs (fun y hy => by rcases List.mem_cons.1 ((hm y).1 hy) with rfl | h; exact hx; exact h)
      simp at hl; omega
    refine List.nodup_cons.2 ⟨hx, nodup_of_len L (s.erase x) (hs.erase x) (fun y => ?_) ?_⟩
    · rw [hs.mem_erase_iff, hm y, List.mem_cons]
      constructor
      · rintro ⟨h1, rfl | h⟩
        · exact absurd rfl h1
        · exact h
      · exact fun h => ⟨fun e => hx (e ▸ h), .inr h⟩
    · rw [List.length_erase_of_mem hxs]; simp at hl; omega

theorem len_eq_nodup (L s : List Int) (hs : s.Nodup) (hm : ∀ x, x ∈ s ↔ x ∈ L) : decide (s.length = L.length) = decide L.Nodup := by
  rw [decide_eq_decide]
  exact ⟨nodup_of_len L s hs hm, fun h => nodup_same_len hs h hm⟩

end Go.Proofs.YtggfdlanobndjaaGreat

/- cascade.unlike: is no name there twice? -/
namespace Go.Proofs.YtggfdlanobndjaaGreat
open Go.RowKit Go.Maps
set_option linter.unusedSimpArgs false
set_option linter.unusedVariables false

/-- names are names -/
def wfN (l : List Pt) : Prop := ∀ p ∈ l, (Lit.int .u32 p.2.2).wf = true

/-- a map whose keys are these names, once each the last place is told -/
def placeF : List Pt → Nat → (Int → Option Int)
  | _, 0 => fun _ => none
  | l, i + 1 => putF (placeF l i) (l.getD i (0, 0, 0)).2.2 i
theorem placeF_some (l : List Pt) : ∀ (i : Nat), i ≤ l.length → ∀ x, (placeF l i x).isSome = true ↔ x ∈ ids (l.take i)
  | 0, _, x => by simp [placeF, ids]
  | i + 1, h, x => by
    have ih := placeF_some l i (by omega) x
    have et : l.take (i + 1) = l.take i ++ [l[i]] := List.take_succ_eq_append_getElem (by omega)
    have eg : l.getD i (0, 0, 0) = l[i] := by simp [show i < l.length by omega]
    unfold placeF putF
    rw [et, ids, List.map_append, List.mem_append, eg]
    by_cases hx : x = l[i].2.2
    · simp [hx]
    · rw [if_neg hx, ih]; simp [ids, hx]
/-- with unlike names each has its own place -/
theorem placeF_get {l : List Pt} (hu : (ids l).Nodup) : ∀ (i : Nat), i ≤ l.length → ∀ k, k < i → placeF l i (l.getD k (0, 0, 0)).2.2 = some (k : Int)
  | 0, _, k, hk => by omega
  | i + 1, h, k, hk => by
    have eg : ∀ j, j < l.length → l.getD j (0, 0, 0) = l[j]! := fun j hj => by simp [hj]
    unfold placeF putF
    by_cases e : k = i
    · subst e; rw [if_pos rfl]
    · have hne : (l.getD k (0, 0, 0)).2.2 ≠ (l.getD i (0, 0, 0)).2.2 := by
        intro he
        have h1 := List.pairwise_iff_getElem.1 hu k i (by simp [ids]; omega) (by simp [ids]; omega) (by omega)
        simp [ids] at h1
        simp [show k < l.length by omega, show i < l.length by omega] at he
        exact h1 he
      rw [if_neg hne]
      exact placeF_get hu i (by omega) k (by omega)

def PlcAt (D : DataW Unit) (l : List Pt) (i : Nat) : Prop := ∃ s, IsM .u32 .i64 D (placeF l i) s
theorem PlcAt.put {D : DataW Unit} {l : List Pt} {i : Nat} (h : PlcAt D l i) (hi : i < l.length) : PlcAt (D.put (.int .u32 l[i].2.2) (.lit (.int .i64 (i : Nat)))) l (i + 1) := by
  obtain ⟨s, h⟩ := h
  have h2 := h.put l[i].2.2 i
  have eg : l.getD i (0, 0, 0) = l[i] := by simp [hi]
  have e : placeF l (i + 1) = putF (placeF l i) l[i].2.2 i := by rw [placeF, eg]
  rw [← e] at h2
  exact ⟨_, h2⟩
theorem PlcAt.size {D : DataW Unit} {l : List Pt} (h : PlcAt D l l.length) : (((Maps.size D : Nat) : Int) == ((l.length : Nat) : Int)) = unl l := by
  obtain ⟨s, h1⟩ := h
  have hl : (ids l).length = l.length := by simp [ids]
  have h3 := len_eq_nodup (ids l) s h1.2.2.1 (fun x => (h1.2.2.2.1 x).trans (by have := placeF_some l l.length (Nat.le_refl _) x; rwa [List.take_length] at this))
  rw [h1.2.1, ← hl]
  unfold unl
  rw [← h3, Bool.eq_iff_iff]
  simp only [beq_iff_eq, decide_eq_true_eq]
  omega

set_option maxRecDepth 100000 in
set_option maxHeartbeats 2000000 in
theorem casc_unlike (a : Option Addr) (c : Nat) (l : List Pt) (w : World) (hl : RdK ePt 3 w a l) (hn : l.length ≤ 1000000) (hw : wfN l) :
    Calls Tryz.prog 63 #[.slice a l.length c] w fun e w' => e = .returned (.bool (unl l)) ∧ Below w.heap.size w w' := by
  have HR := Lib.hid hl
  have HW := Lib.hid hw
  clear hl hw
  have hmm := @run_makeMap Tryz.prog
  go_enter Tryz.func63, Tryz.ntmps63
  go_wp2
  go_loopw [9] (fun iv wr => ∃ i : Nat, iv = .int .i64 i ∧ i ≤ l.length ∧ Below w.heap.size w wr ∧ Hid (∃ (D : DataW Unit), wr.ownsMap Tryz.prog 32 (plainElem Tryz.prog 3) w.heap.size i D ∧ PlcAt D l i)) (fun iv _ => l.length - (intOf iv).toNat)
  case atStart => exact ⟨0, rfl, Nat.zero_le _, (Below.refl _ _).alloc (Nat.le_refl _) _, ⟨.map [], World.ownsMap_made _ _ _ _, [], IsM.empty _ _⟩⟩
  case round =>
    obtain ⟨i, rfl, hi, hb, HO⟩ := hrel
    by_cases hil : i < l.length
    · obtain ⟨b, off, ea, hbl, hcs⟩ := (HR.out.below hb).get (by omega)
      have x0 := hcs i hil 0 (by omega)
      have x1 := hcs i hil 1 (by omega)
      have x2 := hcs i hil 2 (by omega)
      simp only [ePt, List.getElem?_cons_zero, List.getElem?_cons_succ, Nat.add_zero] at x0 x1 x2
      have hkey : Hid (keyOf Tryz.prog 32 (.int .u32 l[i].2.2) = some (.int .u32 l[i].2.2)) := keyOf_int_mk Tryz.underlying32 (HW.out _ (List.getElem_mem _))
      obtain ⟨D, hown0, hD⟩ := HO.out
      have HD2 := Lib.hid (hD.put hil)
      have hS2 := hb.size
      have EA := Lib.hid ea
      clear HO hcs hD ea
      generalize l[i] = p at *
      obtain ⟨px, py, pi⟩ := p
      obtain rfl := EA.out
      clear EA
      have hown := hown0.kept (World.grownBy_alloc wr (.cells #[.int .i64 px, .int .i64 py, .int .u32 pi] 34) none) (by simp)
      go_wp2_with (at_mapUpdate; refine wpList_mapUpdate_own _ rfl _ _ _ 69 rfl 32 3 (int_keyed Tryz.underlying32) Tryz.underlying69 _ w.heap.size i _ rfl hown (by unfold maxLen; omega) _ _ _ rfl rfl hkey.out _ [] (plainElem_int Tryz.underlying3 (by simp [Lit.wf, IntKind.min, IntKind.max, IntKind.bits, IntKind.signed]; omega)) ?_; intro w3 hown3 hgrow3)
      have B3 : Below w.heap.size wr w3 := (((Below.refl _ wr).alloc (by omega) _)).grown hgrow3 (by simp; omega) (fun j ej => by cases ej; omega)
      have HO3 : Hid (∃ (D : DataW Unit), w3.ownsMap Tryz.prog 32 (plainElem Tryz.prog 3) w.heap.size (i + 1) D ∧ PlcAt D l (i + 1)) := ⟨_, hown3, HD2.out⟩
      have B4 := hb.trans B3
      clear hown3 hgrow3 hown hown0 HD2
      go_wp2
      go_roundw
      case rel => exact ⟨i + 1, by go_num, by omega, B4, HO3⟩
      case measure => simp [intOf]; omega
    · obtain rfl : i = l.length := by omega
      obtain ⟨D, hown, hD⟩ := HO.out
      have hsize := hD.size
      have HS := Lib.hid hsize
      clear hsize hD HO
      go_wp2_with (at_len; refine wpList_len_own _ rfl _ 69 rfl 32 3 Tryz.underlying69 _ w.heap.size _ _ rfl hown ?_)
      go_ret
      exact ⟨by rw [HS.out]; rfl, hb⟩
end Go.Proofs.YtggfdlanobndjaaGreat

/- The row of a cascade's lists. No function of the program is walked here. -/
namespace Go.Proofs.YtggfdlanobndjaaGreat
open Go.RowKit Go.Sort Go.Shelf Go.Lib Go.Maps
attribute [local irreducible] wpQuiet
attribute [local go_sem] Oper.still1
set_option linter.unusedSimpArgs false
set_option linter.unusedVariables false

def upd (f : Nat → Value) (k : Nat) (v : Value) : Nat → Value := fun j => if j = k then v else f j
theorem upd_same (f : Nat → Value) (k : Nat) (v : Value) : upd f k v k = v := by simp [upd]
theorem upd_ne {f : Nat → Value} {k j : Nat} {v : Value} (h : j ≠ k) : upd f k v j = f j := by simp [upd, h]
theorem upd_upd (f : Nat → Value) (k : Nat) (v v' : Value) : upd (upd f k v) k v' = upd f k v' := by funext j; simp only [upd]; split <;> rfl
theorem upd_comm (f : Nat → Value) {k j : Nat} (v v' : Value) (h : k ≠ j) : upd (upd f k v) j v' = upd (upd f j v') k v := by
  funext i; simp only [upd]; split <;> split <;> first | rfl | omega
theorem upd_id (f : Nat → Value) (k : Nat) (v : Value) (h : f k = v) : upd f k v = f := by
  funext j; simp only [upd]; split
  · rename_i e; rw [e, h]
  · rfl

/-- the row of lists -/
def lsF (LN LL : Nat → Value) (n : Nat) : List Value := (List.range n).flatMap fun k => [LN k, LL k]
theorem lsF_len (LN LL : Nat → Value) (n : Nat) : (lsF LN LL n).length = n * 2 := by
  unfold lsF; rw [flat_len (sz := 2) (fun _ => rfl)]; simp
theorem lsF_get (LN LL : Nat → Value) {n k : Nat} (h : k < n) : (lsF LN LL n)[k * 2]? = some (LN k) ∧ (lsF LN LL n)[k * 2 + 1]? = some (LL k) := by
  have h1 := flat_get (enc := fun k => [LN k, LL k]) (sz := 2) (fun _ => rfl) (List.range n) k (by simpa using h) 0 (by omega)
  have h2 := flat_get (enc := fun k => [LN k, LL k]) (sz := 2) (fun _ => rfl) (List.range n) k (by simpa using h) 1 (by omega)
  simp only [List.getElem_range, Nat.add_zero, List.getElem?_cons_zero, List.getElem?_cons_succ] at h1 h2
  exact ⟨h1, h2⟩
theorem lsF_setN (LN LL : Nat → Value) {n k : Nat} (h : k < n) (v : Value) : (lsF LN LL n).set (k * 2) v = lsF (upd LN k v) LL n := by
  apply List.ext_getElem?
  intro i
  rw [List.getElem?_set]
  by_cases hi : i < n * 2
  · have hd : i / 2 < n := by omega
    obtain ⟨a1, a2⟩ := lsF_get LN LL hd
    obtain ⟨b1, b2⟩ := lsF_get (upd LN k v) LL hd
    rcases Nat.mod_two_eq_zero_or_one i with hm | hm
    · have e : i / 2 * 2 = i := by omega
      rw [e] at a1 b1
      rw [b1]
      by_cases hk : k * 2 = i
      · rw [if_pos hk, if_pos (by rw [lsF_len]; omega), show i / 2 = k by omega, upd_same]
      · rw [if_neg hk, a1, upd_ne (by omega)]
    · have e : i / 2 * 2 + 1 = i := by omega
      rw [e] at a2 b2
      rw [b2, if_neg (by omega), a2]
  · rw [if_neg (by omega), List.getElem?_eq_none (by rw [lsF_len]; omega), List.getElem?_eq_none (by rw [lsF_len]; omega)]
theorem lsF_setL (LN LL : Nat → Value) {n k : Nat} (h : k < n) (v : Value) : (lsF LN LL n).set (k * 2 + 1) v = lsF LN (upd LL k v) n := by
  apply List.ext_getElem?
  intro i
  rw [List.getElem?_set]
  by_cases hi : i < n * 2
  · have hd : i / 2 < n := by omega
    obtain ⟨a1, a2⟩ := lsF_get LN LL hd
    obtain ⟨b1, b2⟩ := lsF_get LN (upd LL k v) hd
    rcases Nat.mod_two_eq_zero_or_one i with hm | hm
    · have e : i / 2 * 2 = i := by omega
      rw [e] at a1 b1
      rw [b1, if_neg (by omega), a1]
    · have e : i / 2 * 2 + 1 = i := by omega
      rw [e] at a2 b2
      rw [b2]
      by_cases hk : k * 2 + 1 = i
      · rw [if_pos hk, if_pos (by rw [lsF_len]; omega), show i / 2 = k by omega, upd_same]
      · rw [if_neg hk, a2, upd_ne (by omega)]
  · rw [if_neg (by omega), List.getElem?_eq_none (by rw [lsF_len]; omega), List.getElem?_eq_none (by rw [lsF_len]; omega)]

/-- the row of lists, as it lies -/
abbrev LsRow (W : World) (base gl n c : Nat) (LN LL : Nat → Value) : Prop := W.ownsRow base 112 2 (.slice (some ⟨gl, 0, none⟩) n c) n (lsF LN LL n)
theorem LsRow.get {W : World} {base gl n c k : Nat} {LN LL : Nat → Value} (h : LsRow W base gl n c LN LL) (hk : k < n) : W.cell? ⟨gl, k * 2, none⟩ = some (LN k) ∧ W.cell? ⟨gl, k * 2 + 1, none⟩ = some (LL k) := by
  obtain ⟨g1, g2⟩ := lsF_get LN LL hk
  exact ⟨(h.cellAt (k * 2) (by omega)).trans g1, (h.cellAt (k * 2 + 1) (by omega)).trans g2⟩
theorem LsRow.setN {W : World} {base gl n c k : Nat} {LN LL : Nat → Value} (h : LsRow W base gl n c LN LL) (hk : k < n) (v : Value) : LsRow (W.setCell ⟨gl, k * 2, none⟩ v) base gl n c (upd LN k v) LL := by
  have := (h.stored (k * 2) v).1
  rwa [lsF_setN LN LL hk] at this
theorem LsRow.setL {W : World} {base gl n c k : Nat} {LN LL : Nat → Value} (h : LsRow W base gl n c LN LL) (hk : k < n) (v : Value) : LsRow (W.setCell ⟨gl, k * 2 + 1, none⟩ v) base gl n c LN (upd LL k v) := by
  have := (h.stored (k * 2 + 1) v).1
  rwa [lsF_setL LN LL hk] at this
theorem LsRow.kept {S : Nat → Prop} {W W' : World} {base gl n c : Nat} {LN LL : Nat → Value} (h : LsRow W base gl n c LN LL) (K : KpS S W W') (hS : ¬ S gl) : LsRow W' base gl n c LN LL :=
  rowK h K fun g e => by injection e with e; exact e ▸ hS


theorem mapSame {w w' : World} {pm n : Nat} {D : DataW Unit} (h : w.ownsMap Tryz.prog 32 (plainElem Tryz.prog 3) pm n D) (e : w'.heap[pm]? = w.heap[pm]?) : w'.ownsMap Tryz.prog 32 (plainElem Tryz.prog 3) pm n D := by
  obtain ⟨es, clock, hb, r⟩ := h
  exact ⟨es, clock, e.trans hb, r⟩


set_option maxRecDepth 100000 in
theorem plc_look {w : World} {pm n : Nat} {D : DataW Unit} {x : Int} {i : Nat} (h : w.ownsMap Tryz.prog 32 (plainElem Tryz.prog 3) pm n D) (hx : (Lit.int .u32 x).wf = true) (hd : D.atKey (.int .u32 x) (.lit (.int .i64 0)) = .lit (.int .i64 (i : Nat))) :
    (Instr.lookup 69 (.map (some pm)) (.int .u32 x) false).run Tryz.prog w = .ok (.int .i64 i) w := by
  obtain ⟨c, hrun, hat, hwc⟩ := h.lookup_int (t := 69) (e := 3) (q := .i64) (key := .int .u32 x) (int_keyed Tryz.underlying32) Tryz.underlying69 Tryz.underlying3 (Tryz.zeroValue3 _) (keyOf_int_mk Tryz.underlying32 hx)
  rw [hd] at hat
  injection hat with hat
  injection hat with _ hat
  subst hat
  exact hrun

end Go.Proofs.YtggfdlanobndjaaGreat

/- What the loop of cascade.spread keeps. No function of the program is walked here. -/
namespace Go.Proofs.YtggfdlanobndjaaGreat
open Go.RowKit Go.Sort Go.Shelf Go.Lib Go.Maps
attribute [local irreducible] wpQuiet
attribute [local go_sem] Oper.still1
set_option linter.unusedSimpArgs false
set_option linter.unusedVariables false

def SprI (w0 : World) (base gl n cl : Nat) (LN LL : Nat → Value) (K kl kr m fb : Nat) (nm : Nat → Int) (L : List Nat) (j jf : Nat) (wr : World) (vl vr vf : Value) : Prop :=
  LsRow wr base gl n cl (upd (upd LN kl vl) kr vr) (upd LL K vf) ∧
  wr.ownsRow w0.heap.size 32 1 vl ((L.take j).filter fun i => decide (i < m)).length ((((L.take j).filter fun i => decide (i < m)).map nm).map (Value.int .u32)) ∧
  wr.ownsRow w0.heap.size 32 1 vr ((L.take j).filter fun i => !decide (i < m)).length ((((L.take j).filter fun i => !decide (i < m)).map nm).map (Value.int .u32)) ∧
  wr.ownsRow fb 3 1 vf (jf + 1) (((lf m L).take (jf + 1)).map (Value.int .i64)) ∧
  (∀ g, vl.ownBlock = some g → vr.ownBlock ≠ some g) ∧ KpS (fun b => b = gl ∨ b = fb) w0 wr

theorem SprI.drewN {w0 : World} {base gl n cl : Nat} {LN LL : Nat → Value} {K kl kr m fb : Nat} {nm : Nat → Int} {L : List Nat} {j jf : Nat} {wr : World} {vl vr vf : Value} (h : SprI w0 base gl n cl LN LL K kl kr m fb nm L j jf wr vl vr vf) (q : Nat) : SprI w0 base gl n cl LN LL K kl kr m fb nm L j jf (wr.drewN q) vl vr vf := by
  obtain ⟨a, b, c, d, e, f⟩ := h
  exact ⟨a, b, c, d, e, f.below (Below.drewAny _ q)⟩

section
variable {w0 : World} {base gl n cl : Nat} {LN LL : Nat → Value} {K kl kr m fb : Nat} {nm : Nat → Int} {L : List Nat} {j jf : Nat} {w3 w4 : World} {vl vr vf v1 : Value}
theorem SprI.left (h : SprI w0 base gl n cl LN LL K kl kr m fb nm L j jf w3 vl vr vf) (hj : j < L.length) (hi : L[j] < m) (hkl : kl < n) (hne : kl ≠ kr) (hgl : gl < w0.heap.size) (hfb : fb < w0.heap.size) (hgf : gl ≠ fb)
    (hown : w4.ownsRow w0.heap.size 32 1 v1 (((L.take j).filter fun i => decide (i < m)).length + 1) ((((L.take j).filter fun i => decide (i < m)).map nm).map (Value.int .u32) ++ [.int .u32 (nm L[j])])) (hg : w3.grownBy w4 vl.ownBlock) (hb : v1.ownBlock = vl.ownBlock ∨ ∃ b, v1.ownBlock = some b ∧ w3.heap.size ≤ b) :
    SprI w0 base gl n cl LN LL K kl kr m fb nm L (j + 1) jf (w4.setCell ⟨gl, kl * 2, none⟩ v1) v1 vr vf := by
  obtain ⟨a, b, c, d, e, f⟩ := h
  have KA : KpS (fun k => vl.ownBlock = some k) w3 w4 := (KpS.refl _ w3).grown hg (fun k hk => .inl hk)
  have KS : KpS (fun k => k = gl) w4 (w4.setCell ⟨gl, kl * 2, none⟩ v1) := (KpS.refl (fun k => k = gl) w4).set (a := ⟨gl, kl * 2, none⟩) v1 (.inl rfl)
  have hvl := b.lt
  have hvr := c.lt
  have et : L.take (j + 1) = L.take j ++ [L[j]] := List.take_succ_eq_append_getElem hj
  have ef1 : (L.take (j + 1)).filter (fun i => decide (i < m)) = (L.take j).filter (fun i => decide (i < m)) ++ [L[j]] := by rw [et, List.filter_append]; simp [hi]
  have ef2 : (L.take (j + 1)).filter (fun i => !decide (i < m)) = (L.take j).filter (fun i => !decide (i < m)) := by rw [et, List.filter_append]; simp [hi]
  have hv1 : ∀ g, v1.ownBlock = some g → w0.heap.size ≤ g := fun g hg => (hown.lt g hg).1
  refine ⟨?_, ?_, ?_, ?_, ?_, ?_⟩
  · have h1 := (a.kept KA fun h => by have := (hvl gl h).1; omega).setN hkl v1
    rwa [upd_comm _ _ _ (fun h => hne h.symm), upd_upd] at h1
  · rw [ef1, List.length_append, List.map_append, List.map_append]
    exact rowK (S := fun k => k = gl) hown KS fun g h => by have := hv1 g h; omega
  · rw [ef2]
    exact rowK (S := fun k => k = gl) (rowK (S := fun k => vl.ownBlock = some k) c KA fun g h h2 => e g h2 h) KS fun g h => by have := (hvr g h).1; omega
  · refine rowK (S := fun k => k = gl) (rowK (S := fun k => vl.ownBlock = some k) d KA fun g h h2 => rows_ne b d (by decide) g h2 h) KS fun g h h2 => ?_
    subst h2
    have h3 := LsRow.kept a (KpS.refl (fun _ => False) w3) (fun h => h)
    exact rows_ne h3 d (by decide) g rfl h
  · intro g h h2
    rcases hb with h9 | ⟨b9, h9, h8⟩
    · exact e g (h9 ▸ h) h2
    · rw [h9] at h
      injection h with h
      have := (hvr g h2).2
      omega
  · exact ((f.mono (S' := fun k => (k = gl ∨ k = fb) ∨ w0.heap.size ≤ k) (fun k h => .inl h)).trans (KA.mono (fun k h => .inr (hvl k h).1))).strip.set (a := ⟨gl, kl * 2, none⟩) v1 (.inl (.inl rfl))
theorem SprI.right (h : SprI w0 base gl n cl LN LL K kl kr m fb nm L j jf w3 vl vr vf) (hj : j < L.length) (hi : ¬ L[j] < m) (hkr : kr < n) (hne : kl ≠ kr) (hgl : gl < w0.heap.size) (hfb : fb < w0.heap.size) (hgf : gl ≠ fb)
    (hown : w4.ownsRow w0.heap.size 32 1 v1 (((L.take j).filter fun i => !decide (i < m)).length + 1) ((((L.take j).filter fun i => !decide (i < m)).map nm).map (Value.int .u32) ++ [.int .u32 (nm L[j])])) (hg : w3.grownBy w4 vr.ownBlock) (hb : v1.ownBlock = vr.ownBlock ∨ ∃ b, v1.ownBlock = some b ∧ w3.heap.size ≤ b) :
    SprI w0 base gl n cl LN LL K kl kr m fb nm L (j + 1) jf (w4.setCell ⟨gl, kr * 2, none⟩ v1) vl v1 vf := by
  obtain ⟨a, b, c, d, e, f⟩ := h
  have KA : KpS (fun k => vr.ownBlock = some k) w3 w4 := (KpS.refl _ w3).grown hg (fun k hk => .inl hk)
  have KS : KpS (fun k => k = gl) w4 (w4.setCell ⟨gl, kr * 2, none⟩ v1) := (KpS.refl (fun k => k = gl) w4).set (a := ⟨gl, kr * 2, none⟩) v1 (.inl rfl)
  have hvl := b.lt
  have hvr := c.lt
  have et : L.take (j + 1) = L.take j ++ [L[j]] := List.take_succ_eq_append_getElem hj
  have ef1 : (L.take (j + 1)).filter (fun i => !decide (i < m)) = (L.take j).filter (fun i => !decide (i < m)) ++ [L[j]] := by rw [et, List.filter_append]; simp [hi]
  have ef2 : (L.take (j + 1)).filter (fun i => decide (i < m)) = (L.take j).filter (fun i => decide (i < m)) := by rw [et, List.filter_append]; simp [hi]
  have hv1 : ∀ g, v1.ownBlock = some g → w0.heap.size ≤ g := fun g hg => (hown.lt g hg).1
  refine ⟨?_, ?_, ?_, ?_, ?_, ?_⟩
  · have h1 := (a.kept KA fun h => by have := (hvr gl h).1; omega).setN hkr v1
    rwa [upd_upd] at h1
  · rw [ef2]
    exact rowK (S := fun k => k = gl) (rowK (S := fun k => vr.ownBlock = some k) b KA fun g h h2 => e g h h2) KS fun g h => by have := (hvl g h).1; omega
  · rw [ef1, List.length_append, List.map_append, List.map_append]
    exact rowK (S := fun k => k = gl) hown KS fun g h => by have := hv1 g h; omega
  · refine rowK (S := fun k => k = gl) (rowK (S := fun k => vr.ownBlock = some k) d KA fun g h h2 => rows_ne c d (by decide) g h2 h) KS fun g h h2 => ?_
    subst h2
    have h3 := LsRow.kept a (KpS.refl (fun _ => False) w3) (fun h => h)
    exact rows_ne h3 d (by decide) g rfl h
  · intro g h h2
    rcases hb with h9 | ⟨b9, h9, h8⟩
    · exact e g h (h9 ▸ h2)
    · rw [h9] at h2
      injection h2 with h2
      have := (hvl g h).2
      omega
  · exact ((f.mono (S' := fun k => (k = gl ∨ k = fb) ∨ w0.heap.size ≤ k) (fun k h => .inl h)).trans (KA.mono (fun k h => .inr (hvr k h).1))).strip.set (a := ⟨gl, kr * 2, none⟩) v1 (.inl (.inl rfl))
end

theorem lf_take {m : Nat} {L : List Nat} {j : Nat} (h : j < L.length) : (lf m L).take (j + 1 + 1) = (lf m L).take (j + 1) ++ [(((L.take (j + 1)).filter fun i => decide (i < m)).length : Int)] := by
  have hl := lf_len m L
  rw [List.take_succ_eq_append_getElem (by omega), lf_get]
  rw [List.countP_eq_length_filter]

theorem SprI.lefts {w0 : World} {base gl n cl : Nat} {LN LL : Nat → Value} {K kl kr m fb : Nat} {nm : Nat → Int} {L : List Nat} {j : Nat} {w5 w7 : World} {vl vr vf v1 : Value} (h : SprI w0 base gl n cl LN LL K kl kr m fb nm L (j + 1) j w5 vl vr vf) (hj : j < L.length) (hK : K < n) (hgl : gl < w0.heap.size) (hfb : w0.heap.size = fb + 1) (hgf : gl ≠ fb)
    (hown : w7.ownsRow fb 3 1 v1 (j + 1 + 1) (((lf m L).take (j + 1)).map (Value.int .i64) ++ [.int .i64 (((L.take (j + 1)).filter fun i => decide (i < m)).length : Nat)])) (hg : w5.grownBy w7 vf.ownBlock) :
    SprI w0 base gl n cl LN LL K kl kr m fb nm L (j + 1) (j + 1) (w7.setCell ⟨gl, K * 2 + 1, none⟩ v1) vl vr v1 := by
  obtain ⟨a, b, c, d, e, f⟩ := h
  have KA : KpS (fun k => vf.ownBlock = some k) w5 w7 := (KpS.refl _ w5).grown hg (fun k hk => .inl hk)
  have KS : KpS (fun k => k = gl) w7 (w7.setCell ⟨gl, K * 2 + 1, none⟩ v1) := (KpS.refl (fun k => k = gl) w7).set (a := ⟨gl, K * 2 + 1, none⟩) v1 (.inl rfl)
  have hvl := b.lt
  have hvr := c.lt
  have hvf := d.lt
  have a' := LsRow.kept a (KpS.refl (fun _ => False) w5) (fun h => h)
  have hgv : vf.ownBlock ≠ some gl := fun h => rows_ne a' d (by decide) gl rfl h
  have a7 := a.kept KA hgv
  refine ⟨?_, ?_, ?_, ?_, e, ?_⟩
  · have h1 := a7.setL hK v1
    rwa [upd_upd] at h1
  · exact rowK (S := fun k => k = gl) (rowK (S := fun k => vf.ownBlock = some k) b KA fun g h h2 => rows_ne b d (by decide) g h h2) KS fun g h => by have := (hvl g h).1; omega
  · exact rowK (S := fun k => k = gl) (rowK (S := fun k => vf.ownBlock = some k) c KA fun g h h2 => rows_ne c d (by decide) g h h2) KS fun g h => by have := (hvr g h).1; omega
  · rw [lf_take hj, List.map_append]
    refine rowK (S := fun k => k = gl) hown KS fun g h h2 => ?_
    subst h2
    exact rows_ne a7 hown (by decide) g rfl h
  · exact ((f.mono (S' := fun k => (k = gl ∨ k = fb) ∨ w0.heap.size ≤ k) (fun k h => .inl h)).trans (KA.mono (fun k h => by have := (hvf k h).1; by_cases e : k = fb; exact .inl (.inr e); exact .inr (by omega)))).strip.set (a := ⟨gl, K * 2 + 1, none⟩) v1 (.inl (.inl rfl))

end Go.Proofs.YtggfdlanobndjaaGreat

/- cascade.spread at a node: its list goes to its kids, with bridges. -/
namespace Go.Proofs.YtggfdlanobndjaaGreat
open Go.RowKit Go.Sort Go.Shelf Go.Lib Go.Maps
attribute [local irreducible] wpQuiet
attribute [local go_sem] Oper.still1
set_option linter.unusedSimpArgs false
set_option linter.unusedVariables false

set_option maxRecDepth 100000 in
set_option maxHeartbeats 4000000 in
theorem casc_spread_node (l r : FT) (s tb gn off cn gl cl base K kl kr m pm nmap : Nat) (N : List Nd) (LN LL : Nat → Value) (L : List Nat) (nm : Nat → Int) (an : Option Addr) (cnn : Nat) (D : DataW Unit) (w : World) (ha : FT.At N (.node l r) s) (hK : (FT.node l r).root s = K) (hkl : l.root s = kl) (hkr : r.root (s + l.size) = kr) (hm : l.hi = m) (hmb : m ≤ 1000000) (hN : N.length ≤ 1000000)
    (c4 : w.cell? ⟨tb, 4, none⟩ = some (.slice (some ⟨gn, off, none⟩) N.length cn)) (r4 : RdK eNd 7 w (some ⟨gn, off, none⟩) N) (c5 : w.cell? ⟨tb, 5, none⟩ = some (.slice (some ⟨gl, 0, none⟩) N.length cl))
    (hlst : LsRow w base gl N.length cl LN LL) (hne : gn ≠ gl ∧ tb ≠ gl ∧ ∀ b o, an = some ⟨b, o, none⟩ → b ≠ gl)
    (hLN : LN K = .slice an L.length cnn) (hLr : Rd (.int .u32) w an (L.map nm)) (hlL : L.length ≤ 1000000) (hel : LN kl = .slice none 0 0) (her : LN kr = .slice none 0 0)
    (hmap : w.ownsMap Tryz.prog 32 (plainElem Tryz.prog 3) pm nmap D) (hpl : ∀ i ∈ L, D.atKey (.int .u32 (nm i)) (.lit (.int .i64 0)) = .lit (.int .i64 (i : Nat))) (hwf : ∀ i ∈ L, (Lit.int .u32 (nm i)).wf = true) (hLm : ∀ i ∈ L, i ≤ 1000000) :
    Calls Tryz.prog 64 #[.pointer (some ⟨tb, 0, none⟩), .int .i64 K, .map (some pm)] w fun e w' => e = .returned (.tuple #[]) ∧ ∃ vl vr vf, LsRow w' base gl N.length cl (upd (upd LN kl vl) kr vr) (upd LL K vf) ∧
      w'.ownsRow w.heap.size 32 1 vl (L.filter fun i => decide (i < m)).length (((L.filter fun i => decide (i < m)).map nm).map (Value.int .u32)) ∧
      w'.ownsRow w.heap.size 32 1 vr (L.filter fun i => !decide (i < m)).length (((L.filter fun i => !decide (i < m)).map nm).map (Value.int .u32)) ∧
      w'.ownsRow w.heap.size 3 1 vf (lf m L).length ((lf m L).map (Value.int .i64)) ∧ (∀ g, vl.ownBlock = some g → vr.ownBlock ≠ some g) ∧ KpS (fun b => b = gl) w w' := by
  obtain ⟨hgn, n0, n1, n2, n3, n4, n5, n6⟩ := nd_all r4 ha.get
  have hlt := ha.lt
  have htl := World.block_lt_of_cell? w _ c4
  have hgl : gl < w.heap.size := (hlst.lt gl rfl).2
  simp only at htl
  simp only [FT.top] at n0 n1 n2 n3 n4 n6
  have hkn := FT.kids_ne l r s
  have hltl := ha.left.lt
  have hltr := ha.right.lt
  obtain ⟨hgn2, -, -, -, -, p4, -, -⟩ := nd_all r4 ha.left.get
  rw [FT.top_to, hm, hkl] at p4
  have hnl : ((s + l.size : Nat) : Int) - 1 = (kl : Int) := by rw [← hkl]; unfold FT.root; have := l.size_pos; omega
  have hnr : ((s + l.size + r.size : Nat) : Int) - 1 = (kr : Int) := by rw [← hkr]; unfold FT.root; have := r.size_pos; omega
  rw [hnl] at n1
  rw [hnr] at n2
  rw [hK] at n0 n1 n2 n3 n4 n5 n6 hlt hkn
  rw [hkl] at hltl hkn
  rw [hkr] at hltr hkn
  generalize hlo : l.lo = lo at *
  generalize hhi : r.hi = hi at *
  have HLST := Lib.hid hlst
  have hlst2 := Lib.hid hlst
  have fr1 := hlst.frozenAt (K * 2 + 1)
  obtain ⟨q0, q1⟩ := hlst.get hlt
  have C4 := Lib.hid c4
  have R4 := Lib.hid r4
  have C5 := Lib.hid c5
  obtain ⟨ql, hql⟩ : ∃ ql, ql = LL K := ⟨_, rfl⟩
  rw [← hql] at q1
  clear hlst r4 hql
  go_enter Tryz.func64, Tryz.ntmps64
  go_upto_region 0 with fail
  go_cut [6, 7] from 6 (fun v6 v7 wx => ∃ x : Nat, v6 = .pointer (some ⟨x, 0, none⟩) ∧ v7 = .pointer (some ⟨gl, K * 2, none⟩) ∧ Hid (wx.heap[x]? = some (.cells #[.int .u8 2, .int .i64 kl, .int .i64 kr, .int .i64 lo, .int .i64 hi, .int .i64 0, .int .i64 0] 119 (0, 0))) ∧ Hid (Below w.heap.size w wx) ∧ w.heap.size ≤ x)
  case first =>
    have g4 := cell_belowW c4
    have g5 := cell_belowW c5
    have k0 := cell_belowW n0
    have k1 := cell_belowW n1
    have k2 := cell_belowW n2
    have k3 := cell_belowW n3
    have k4 := cell_belowW n4
    have k5 := cell_belowW n5
    have k6 := cell_belowW n6
    clear c4 c5 n0 n1 n2 n3 n4 n5 n6
    refine wp_region_head (fun W => ∃ p : BelowW w, W = p.W) [15] [(0, false), (1, false), (2, false), (3, true), (4, false), (5, false), (6, true), (7, false), (8, false), (9, false), (10, true), (11, false), (12, false)] (by kernel_rfl) (by kernel_rfl) (fun _ _ d _ _ h => by cases d <;> exact h) ⟨⟨_, (Below.refl _ _).drew⟩, rfl⟩ 3 rfl (by kernel_rfl) ?_
    simp only [pickB, List.filterMap_cons, List.filterMap_nil, List.getElem?_toArray, List.getElem?_cons_succ, List.getElem?_cons_zero, Option.map_some]
    repeat (refine wpHd_step (fun K hK => ?_); go_simp; first | (refine hK _ ?_; clear hK K) | (apply Exists.intro; refine ⟨fun _ => ?_, hK _ ?_⟩; rfl; clear hK K))
    refine wpHd_nil ?_
    refine wpAnyT_ready [13] (by kernel_rfl) (by simp) ?_
    refine AllReadyT.cons rfl (fun K hK => ?_) AllReadyT.nil
    go_simp
    refine hK _ _ (fun _ _ => ⟨⟨_, (Below.refl _ w).alloc (Nat.le_refl _) _ |>.drew⟩, rfl⟩) ?_
    clear hK K
    refine wpAnyT_ready [14] (by kernel_rfl) (by simp) ?_
    refine AllReadyT.cons rfl (fun K hK => ?_) AllReadyT.nil
    go_simp
    refine hK _ _ (fun _ _ => ⟨⟨_, (Below.refl _ w).alloc (Nat.le_refl _) _ |>.drew⟩, rfl⟩) ?_
    clear hK K
    refine wpAnyT_line [15] _ _ _ (by kernel_rfl) ?_
    simp only [pick, List.filterMap_cons, List.filterMap_nil, List.getElem?_toArray, List.getElem?_cons_succ, List.getElem?_cons_zero]
    go_wp2
    go_meet
    exact ⟨w.heap.size, rfl, rfl, lit0d _ _, (Below.refl _ w).alloc (Nat.le_refl _) _ |>.drew, Nat.le_refl _⟩
  case rest =>
    obtain ⟨x, rfl, rfl, HX, HB, hx⟩ := hcut
    have hxl : x < wc.heap.size := (Array.getElem?_eq_some_iff.1 HX.out).1
    have HL0 : Hid (LsRow wc base gl N.length cl LN LL) := ownsRow_below HLST.out HB.out
    have fr2 := HL0.out.frozenAt (K * 2 + 1)
    have m1 := (HL0.out.get hlt).2
    obtain ⟨ql2, hql2⟩ : ∃ ql2, ql2 = LL K := ⟨_, rfl⟩
    rw [← hql2] at m1
    clear hql2
    have hxc := HX.out
    have x0 : wc.cell? ⟨x, 0, none⟩ = some (.int .u8 2) := by simp [World.cell?, hxc]
    clear hxc
    clear n0 n1 n2 n3 n4 n5 n6 c4 c5 fr1 q0 q1
    have hsz := HB.out.size
    obtain ⟨fb, hfb⟩ : ∃ fb, fb = wc.heap.size := ⟨_, rfl⟩
    have a1 : (wc.alloc (.cells #[.int .i64 0] 3)).cell? ⟨gl, K * 2 + 1, none⟩ = some ql2 := (((Below.refl wc.heap.size wc).alloc (Nat.le_refl _) _).cell (p := ⟨gl, K * 2 + 1, none⟩) (by show gl < _; omega)).trans m1
    have a2 : (wc.alloc (.cells #[.int .i64 0] 3)).frozen? ⟨gl, K * 2 + 1, none⟩ = false := (((Below.refl wc.heap.size wc).alloc (Nat.le_refl _) _).frozen (p := ⟨gl, K * 2 + 1, none⟩) (by show gl < _; omega)).trans fr2
    obtain ⟨W1, eW1⟩ : ∃ W1, W1 = (wc.alloc (.cells #[.int .i64 0] 3)).setCell ⟨gl, K * 2 + 1, none⟩ (.slice (some ⟨wc.heap.size, 0, none⟩) 1 1) := ⟨_, rfl⟩
    have KW : KpS (fun b => b = gl) wc W1 := by rw [eW1]; exact ((KpS.refl (fun b => b = gl) wc).alloc _).set (a := ⟨gl, K * 2 + 1, none⟩) _ (.inl rfl)
    have KWw : KpS (fun b => b = gl) w W1 := ((KpS.refl (fun b => b = gl) w).below HB.out).trans KW
    have L1 : LsRow W1 base gl N.length cl LN (upd LL K (.slice (some ⟨fb, 0, none⟩) 1 1)) := by rw [eW1, hfb]; exact LsRow.setL (ownsRow_below HL0.out ((Below.refl _ _).alloc (Nat.le_refl _) _)) hlt _
    have F1 : W1.ownsRow fb 3 1 (.slice (some ⟨fb, 0, none⟩) 1 1) 1 [.int .i64 0] := by
      have h := owns_lit wc fb [.int .i64 0] 3 (by omega) (by unfold maxLen; simp)
      rw [eW1]
      rw [hfb] at h ⊢
      exact rowK (S := fun b => b = gl) h ((KpS.refl (fun b => b = gl) _).set (a := ⟨gl, K * 2 + 1, none⟩) _ (.inl rfl)) (fun g e => by have e9 := ownB e; omega)
    have hW1 : W1.heap.size = fb + 1 := by rw [eW1, hfb]; simp
    have hxf : x < fb := by rw [hfb]; exact hxl
    have hxg : x ≠ gl := by omega
    have hgf : gl ≠ fb := by omega
    obtain ⟨xk, -⟩ := cellK KW hxl hxg
    have hxc := HX.out
    have y1 : W1.cell? ⟨x, 1, none⟩ = some (.int .i64 kl) := (xk 1).trans (by simp [World.cell?, hxc])
    have y2 : W1.cell? ⟨x, 2, none⟩ = some (.int .i64 kr) := (xk 2).trans (by simp [World.cell?, hxc])
    have y5 : W1.cell? ⟨tb, 5, none⟩ = some (.slice (some ⟨gl, 0, none⟩) N.length cl) := ((cellK KWw htl hne.2.1).1 5).trans C5.out
    have y4 : W1.cell? ⟨tb, 4, none⟩ = some (.slice (some ⟨gn, off, none⟩) N.length cn) := ((cellK KWw htl hne.2.1).1 4).trans C4.out
    have z0 : W1.cell? ⟨gl, K * 2, none⟩ = some (.slice an L.length cnn) := (L1.get hlt).1.trans (by rw [hLN])
    have yp : W1.cell? ⟨gn, off + kl * 7 + 4, none⟩ = some (.int .i64 m) := ((cellK KWw hgn hne.1).1 _).trans p4
    have HLr : Hid (Rd (.int .u32) W1 an (L.map nm)) := by
      rcases hLr with h | ⟨b, o, e, hb, hc⟩
      · exact .inl h
      · exact .inr ⟨b, o, e, Nat.lt_of_lt_of_le hb KWw.size, fun i hi => ((cellK KWw hb (hne.2.2 b o e)).1 _).trans (hc i hi)⟩
    have hmb2 : w.heap[pm]? = W1.heap[pm]? ∧ pm < W1.heap.size := by
      obtain ⟨es, clock, hb, -⟩ := hmap
      have hpl : pm < w.heap.size := (Array.getElem?_eq_some_iff.1 hb).1
      refine ⟨(KWw.block pm hpl fun e => ?_).symm, Nat.lt_of_lt_of_le hpl KWw.size⟩
      subst e
      rcases hlst2.out.2 with ⟨h, -⟩ | ⟨g, cap, cur, h, -, hh, -⟩
      · cases h
      · injection h with h
        injection h with h
        injection h with h
        subst h
        rw [hb] at hh
        cases hh
    have z1 : W1.cell? ⟨x, 0, none⟩ = some (.int .u8 2) := (xk 0).trans (by simp [World.cell?, hxc])
    clear hxc xk KW
    go_upto_region 2 with fail
    rw [← eW1]
    clear eW1
    go_upto_region 3 with fail
    go_quiet (fail)
    go_wp2_with fail
    obtain ⟨w2, ew2⟩ : ∃ w2, w2 = W1.drewN nq := ⟨_, rfl⟩
    have HK2 : Hid (KpS (fun b => b = gl) w w2) := by rw [ew2]; exact KWw.trans (Below.drewAny W1.heap.size _ |> fun h => (KpS.refl _ W1).below h)
    have hL2 : LsRow w2 base gl N.length cl LN (upd LL K (.slice (some ⟨fb, 0, none⟩) 1 1)) := by rw [ew2]; exact L1
    have hF2 : w2.ownsRow fb 3 1 (.slice (some ⟨fb, 0, none⟩) 1 1) 1 [.int .i64 0] := by rw [ew2]; exact F1
    have u1 : w2.cell? ⟨x, 1, none⟩ = some (.int .i64 kl) := by rw [ew2]; exact y1
    have u4 : w2.cell? ⟨tb, 4, none⟩ = some (.slice (some ⟨gn, off, none⟩) N.length cn) := by rw [ew2]; exact y4
    have up : w2.cell? ⟨gn, off + kl * 7 + 4, none⟩ = some (.int .i64 m) := by rw [ew2]; exact yp
    have HU : Hid (w2.cell? ⟨x, 1, none⟩ = some (.int .i64 kl) ∧ w2.cell? ⟨tb, 4, none⟩ = some (.slice (some ⟨gn, off, none⟩) N.length cn) ∧ w2.cell? ⟨gn, off + kl * 7 + 4, none⟩ = some (.int .i64 m)) := ⟨u1, u4, up⟩
    have HR2 : Hid (Rd (.int .u32) w2 an (L.map nm)) := by rw [ew2]; exact HLr.out
    have HM2 : Hid (w2.ownsMap Tryz.prog 32 (plainElem Tryz.prog 3) pm nmap D ∧ pm ≠ gl ∧ pm < fb) := by
      rw [ew2]
      obtain ⟨es, clock, hb, r⟩ := hmap
      have hpl : pm < w.heap.size := (Array.getElem?_eq_some_iff.1 hb).1
      have hpg : pm ≠ gl := by
        rintro rfl
        rcases hlst2.out.2 with ⟨h, -⟩ | ⟨g, cap, cur, h, -, hh, -⟩
        · cases h
        · have h9 := ownB (show (Value.slice (some ⟨pm, 0, none⟩) N.length cl).ownBlock = some g by rw [h]; rfl)
          subst h9
          rw [hb] at hh
          cases hh
      exact ⟨⟨es, clock, (KWw.block pm hpl hpg).trans hb, r⟩, hpg, by omega⟩
    have hw2 : w2.heap.size = fb + 1 := by rw [ew2]; exact hW1
    have htf : tb < fb ∧ gn < fb := by omega
    have hI0 : SprI w2 base gl N.length cl LN LL K kl kr m fb nm L 0 0 w2 (.slice none 0 0) (.slice none 0 0) (.slice (some ⟨fb, 0, none⟩) 1 1) := by
      refine ⟨?_, World.ownsRow_nil _ _ _ _, World.ownsRow_nil _ _ _ _, ?_, fun g h => (by cases h), KpS.refl _ _⟩
      · rw [upd_id _ kl _ hel, upd_id _ kr _ her]; exact hL2
      · have e9 : (lf m L).take (0 + 1) = [0] := by simp [lf, List.range_succ_eq_map]
        rw [e9]; exact hF2
    have HI0 := Lib.hid hI0
    have HAB : Hid (∀ b o, 0 < L.length → an = some ⟨b, o, none⟩ → b < fb) := fun b o h0 e => by
      obtain ⟨b', o', e', hb', -⟩ := hLr.get (by simpa using h0)
      rw [e] at e'
      injection e' with e'
      injection e' with e'
      subst e'
      omega
    have HPL := Lib.hid hpl
    have HWF := Lib.hid hwf
    have HEL := Lib.hid (And.intro hel her)
    rw [← ew2]
    clear ew2 L1 F1 y1 y2 y4 y5 yp z0 z1 KWw HLr hL2 hF2 u1 u4 up hmap hpl hwf hI0 hlst2 HLST HL0 hel her hLr
    go_loopg [51] L.length (fun kx s51 wr => ∃ (j : Nat) (vl vr vf : Value), s51 = .int .i64 j ∧ j ≤ L.length ∧ L.length - j ≤ kx ∧ Hid (SprI w2 base gl N.length cl LN LL K kl kr m fb nm L j j wr vl vr vf))
    case atStart => exact ⟨0, _, _, _, rfl, Nat.zero_le _, by omega, HI0⟩
    case round =>
      obtain ⟨j, vl, vr, vf, rfl, hj, hkx, HI⟩ := hrel
      obtain ⟨al0, cl0, rfl⟩ := rowV HI.out.2.1
      obtain ⟨iL, il, ir, ivf, ine, iK⟩ := HI.out
      have hlen1 : ((L.take j).filter fun i => decide (i < m)).length ≤ L.length := Nat.le_trans (List.length_filter_le _ _) (by simp; omega)
      have hlen2 : ((L.take j).filter fun i => !decide (i < m)).length ≤ L.length := Nat.le_trans (List.length_filter_le _ _) (by simp; omega)
      obtain ⟨xk, -⟩ := cellK iK (b := x) (by omega) (by omega)
      obtain ⟨tk, -⟩ := cellK iK (b := tb) (by omega) (by have := hne.2.1; omega)
      obtain ⟨gk, -⟩ := cellK iK (b := gn) (by omega) (by have := hne.1; omega)
      have u1 := (xk 1).trans HU.out.1
      have u4 := (tk 4).trans HU.out.2.1
      have up := (gk (off + kl * 7 + 4)).trans HU.out.2.2
      clear xk tk gk
      by_cases hjl : j < L.length
      · obtain ⟨i, hi⟩ : ∃ i, i = L[j] := ⟨_, rfl⟩
        have him0 : i ∈ L := by rw [hi]; exact List.getElem_mem _
        have hib := hLm i him0
        obtain ⟨nmi, hnmi⟩ : ∃ nmi, nmi = nm i := ⟨_, rfl⟩
        have hcell : ∃ b o, an = some ⟨b, o, none⟩ ∧ wr.cell? ⟨b, o + j, none⟩ = some (.int .u32 nmi) := by
          obtain ⟨b, o, e, hb, hc⟩ := HR2.out.get (by simp; omega)
          have h9 := hc j (by simpa using hjl)
          rw [List.getElem_map, ← hi, ← hnmi] at h9
          have hbn := hne.2.2 b o e
          have hbf := HAB.out b o (by omega) e
          have hbf := HAB.out b o (by omega) e
          have hbf := HAB.out b o (by omega) e
          have hbf := HAB.out b o (by omega) e
          have hbf := HAB.out b o (by omega) e
          have hbf := HAB.out b o (by omega) e
          have hbf := HAB.out b o (by omega) e
          exact ⟨b, o, e, ((cellK iK hb (by omega)).1 _).trans h9⟩
        obtain ⟨b, o, ean, hnc⟩ := hcell
        subst ean
        have hlook : ∀ q, (Instr.lookup 69 (.map (some pm)) (.int .u32 nmi) false).run Tryz.prog (wr.drewN q) = .ok (.int .i64 i) (wr.drewN q) := fun q => by
          rw [hnmi]
          exact plc_look (mapSame HM2.out.1 (iK.block pm (by have := HM2.out.2.2; omega) (by have := HM2.out.2; omega))) (HWF.out i him0) (HPL.out i him0)
        have HIN : Hid (i = L[j] ∧ nmi = nm i) := ⟨hi, hnmi⟩
        clear hi hnmi him0
        go_wp2_with fail
        go_quiet (fail)
        obtain ⟨w3, ew3⟩ : ∃ w3, w3 = wr.drewN nq := ⟨_, rfl⟩
        have HI3 : Hid (SprI w2 base gl N.length cl LN LL K kl kr m fb nm L j j w3 (.slice al0 ((L.take j).filter fun i => decide (i < m)).length cl0) vr vf) := by rw [ew3]; exact HI.out.drewN nq
        rw [← ew3]
        clear ew3 iL il ir ivf ine iK HI u1 u4 up hnc hlook
        obtain ⟨iL3, il3, ir3, ivf3, ine3, iK3⟩ := HI3.out
        have hgl3 : gl < w3.heap.size := by have := iK3.size; omega
        by_cases him : i < m
        · have d1 : decide ((i : Int) < (m : Int)) = true := by simpa using him
          have d2 : decide (i < m) = true := by simpa using him
          have q0 : w3.cell? ⟨gl, kl * 2, none⟩ = some (.slice al0 ((L.take j).filter fun i => decide (i < m)).length cl0) := (iL3.get hltl).1.trans (by rw [upd_ne (by omega), upd_same])
          have f0 := iL3.frozenAt (kl * 2)
          go_wp2_with (at_builtin; refine wp_append1B elU32 w2.heap.size il3 [.int .u32 nmi] rfl (by simp [Value.oneCell']) rfl _ _ rfl rfl _ rfl (by unfold maxLen; omega) (by omega) (by have := iK3.size; omega) ?_; intro v1 w4 hown4 hg4 hb4; have KA4 : KpS (fun k => (Value.slice al0 ((L.take j).filter fun i => decide (i < m)).length cl0).ownBlock = some k) w3 w4 := (KpS.refl _ w3).grown hg4 (fun k hk => .inl hk); have hgv4 : ¬ (Value.slice al0 ((L.take j).filter fun i => decide (i < m)).length cl0).ownBlock = some gl := (fun h => by have h9 := (il3.lt gl h).1; omega); obtain ⟨ck4, fk4⟩ := cellK KA4 hgl3 hgv4; have q4 := (ck4 (kl * 2)).trans q0; have f4 := (fk4 (kl * 2)).trans f0; clear ck4 fk4; obtain ⟨va1, vc1, rfl⟩ := rowV hown4; have HO4 := Lib.hid hown4; have HG4 := Lib.hid hg4; have HB4 := Lib.hid hb4; clear hown4 hg4 hb4)
          obtain ⟨w5, ew5⟩ : ∃ w5, w5 = w4.setCell ⟨gl, kl * 2, none⟩ (.slice va1 (((L.take j).filter fun i => decide (i < m)).length + 1) vc1) := ⟨_, rfl⟩
          have HI5 : Hid (SprI w2 base gl N.length cl LN LL K kl kr m fb nm L (j + 1) j w5 (.slice va1 (((L.take j).filter fun i => decide (i < m)).length + 1) vc1) vr vf) := by
            rw [ew5]
            exact SprI.left HI3.out hjl (by rw [← HIN.out.1]; exact him) hltl (by omega) (by omega) (by omega) hgf (by rw [← HIN.out.1, ← HIN.out.2]; exact HO4.out) HG4.out (blkOf_alloc HB4.out)
          have hA : ((L.take (j + 1)).filter fun i => decide (i < m)).length = ((L.take j).filter fun i => decide (i < m)).length + 1 := by
            rw [List.take_succ_eq_append_getElem hjl, List.filter_append, ← HIN.out.1]
            simp [him]
          rw [← ew5]
          clear ew5 KA4 hgv4 q4 f4 HO4 HG4 HB4 iL3 il3 ir3 ivf3 ine3 iK3 HI3 q0 f0 hgl3
          generalize hVL : ((.slice va1 (((L.take j).filter fun i => decide (i < m)).length + 1) vc1) : Value) = VL at *
          generalize hVR : (vr : Value) = VR at *
          have hVS : ∃ a c, VL = .slice a (((L.take j).filter fun i => decide (i < m)).length + 1) c := ⟨_, _, hVL.symm⟩
          clear hVL hVR
          obtain ⟨aV, cV, rfl⟩ := hVS
          obtain ⟨A, hAA⟩ : ∃ A, A = ((L.take j).filter fun i => decide (i < m)).length + 1 := ⟨_, rfl⟩
          first | rw [← hAA] at hA HI5 ⊢ | rw [← hAA] at hA HI5
          have HA := Lib.hid hA
          have hA3 : A ≤ 1000001 := by omega
          clear hA hAA
          obtain ⟨iL5, il5, ir5, ivf5, ine5, iK5⟩ := HI5.out
          have hgl5 : gl < w5.heap.size := by have := iK5.size; omega
          have g1 := cell_belowW ((iL5.get hlt).2.trans (by rw [upd_same]))
          have g2 := cell_belowW ((iL5.get hltl).1.trans (by rw [upd_ne (by omega), upd_same]))
          have f2 := iL5.frozenAt (K * 2 + 1)
          have q2 := (iL5.get hlt).2
          rw [upd_same] at q2
          have HVF5 := Lib.hid ivf5
          have hgvf : ¬ vf.ownBlock = some gl := fun h => rows_ne iL5 ivf5 (by decide) gl rfl h
          have hK5 := iK5.size
          clear iL5 il5 ir5 ivf5 ine5 iK5
          refine wp_region_head (fun W => ∃ p : BelowW w5, W = p.W) [11, 12, 13, 14] [(0, false), (1, false), (2, false), (3, false), (4, true), (5, false), (6, false), (7, false), (8, true), (9, false)] (by kernel_rfl) (by kernel_rfl) (fun _ _ d _ _ h => by cases d <;> exact h) ⟨⟨_, (Below.refl _ _).drew⟩, rfl⟩ 5 rfl (by kernel_rfl) ?_
          simp only [pickB, List.filterMap_cons, List.filterMap_nil, List.getElem?_toArray, List.getElem?_cons_succ, List.getElem?_cons_zero, Option.map_some]
          repeat (refine wpHd_step (fun K hK => ?_); go_simp; first | (refine hK _ ?_; clear hK K) | (apply Exists.intro; refine ⟨fun _ => ?_, hK _ ?_⟩; rfl; clear hK K))
          refine wpHd_nil ?_
          refine wpAnyT_ready [10] (by kernel_rfl) (by simp) ?_
          refine AllReadyT.cons rfl (fun K hK => ?_) AllReadyT.nil
          go_simp
          refine hK _ _ (fun _ _ => ⟨⟨_, (Below.refl _ w5).alloc (Nat.le_refl _) _ |>.drew⟩, rfl⟩) ?_
          clear hK K
          refine wpAnyT_ready [11] (by kernel_rfl) (by simp) ?_
          refine AllReadyT.cons rfl (fun K hK => ?_) AllReadyT.nil
          refine step_append1E elInt fb (w := (w5.alloc (.cells #[.int .i64 A] 3)).drew) (ownsRow_below HVF5.out ((Below.refl _ w5).alloc (Nat.le_refl _) _ |>.drew)) [.int .i64 A] rfl (by simp [Value.oneCell']) rfl (.tmp 92) (.tmp 98) rfl rfl w5.heap.size rfl (lit0d _ _) (by unfold maxLen; omega) (by omega) (by simp; omega) ?_
          intro ga capa w7 hown7 hg7 hblk7 hlt7
          refine hK _ _ (fun _ h => absurd (by simp) h) ?_
          clear hK K
          refine wpAnyT_line [12, 13, 14] _ _ _ (by kernel_rfl) ?_
          simp only [pick, List.filterMap_cons, List.filterMap_nil, List.getElem?_toArray, List.getElem?_cons_succ, List.getElem?_cons_zero]
          have hg57 : w5.grownBy w7 vf.ownBlock := grownBy_trans (below_asGrown ((Below.refl _ w5).alloc (Nat.le_refl _) _ |>.drew)) hg7
          have KA7 : KpS (fun k => vf.ownBlock = some k) w5 w7 := (KpS.refl _ w5).grown hg57 (fun k hk => .inl hk)
          obtain ⟨ck7, fk7⟩ := cellK KA7 hgl5 hgvf
          have q7 := (ck7 (K * 2 + 1)).trans q2
          have f7 := (fk7 (K * 2 + 1)).trans f2
          have HI7 : Hid (SprI w2 base gl N.length cl LN LL K kl kr m fb nm L (j + 1) (j + 1) (w7.setCell ⟨gl, K * 2 + 1, none⟩ (.slice (some ⟨ga, 0, none⟩) (j + 1 + 1) capa)) (.slice aV A cV) VR (.slice (some ⟨ga, 0, none⟩) (j + 1 + 1) capa)) :=
            SprI.lefts HI5.out hjl hlt (by omega) hw2 hgf (by rw [HA.out]; exact hown7) hg57
          clear ck7 fk7 KA7 hg57 hg7 hown7 q2 f2 g1 g2 HVF5 HI5
          go_wp2
          go_roundg (L.length - (j + 1))
          case measure => omega
          case rel => exact ⟨j + 1, _, _, _, by go_num, by omega, Nat.le_refl _, HI7⟩
        · have d1 : decide ((i : Int) < (m : Int)) = false := by simpa using him
          have d2 : decide (i < m) = false := by simpa using him
          have q0 : w3.cell? ⟨gl, kr * 2, none⟩ = some vr := (iL3.get hltr).1.trans (by rw [upd_same])
          have f0 := iL3.frozenAt (kr * 2)
          go_wp2_with (at_builtin; refine wp_append1B elU32 w2.heap.size ir3 [.int .u32 nmi] rfl (by simp [Value.oneCell']) rfl _ _ rfl rfl _ rfl (by unfold maxLen; omega) (by omega) (by have := iK3.size; omega) ?_; intro v1 w4 hown4 hg4 hb4; have KA4 : KpS (fun k => vr.ownBlock = some k) w3 w4 := (KpS.refl _ w3).grown hg4 (fun k hk => .inl hk); have hgv4 : ¬ vr.ownBlock = some gl := (fun h => by have h9 := (ir3.lt gl h).1; omega); obtain ⟨ck4, fk4⟩ := cellK KA4 hgl3 hgv4; have q4 := (ck4 (kr * 2)).trans q0; have f4 := (fk4 (kr * 2)).trans f0; clear ck4 fk4; obtain ⟨va1, vc1, rfl⟩ := rowV hown4; have HO4 := Lib.hid hown4; have HG4 := Lib.hid hg4; have HB4 := Lib.hid hb4; clear hown4 hg4 hb4)
          obtain ⟨w5, ew5⟩ : ∃ w5, w5 = w4.setCell ⟨gl, kr * 2, none⟩ (.slice va1 (((L.take j).filter fun i => !decide (i < m)).length + 1) vc1) := ⟨_, rfl⟩
          have HI5 : Hid (SprI w2 base gl N.length cl LN LL K kl kr m fb nm L (j + 1) j w5 (.slice al0 ((L.take j).filter fun i => decide (i < m)).length cl0) (.slice va1 (((L.take j).filter fun i => !decide (i < m)).length + 1) vc1) vf) := by
            rw [ew5]
            exact SprI.right HI3.out hjl (by rw [← HIN.out.1]; exact him) hltr (by omega) (by omega) (by omega) hgf (by rw [← HIN.out.1, ← HIN.out.2]; exact HO4.out) HG4.out (blkOf_alloc HB4.out)
          have hA : ((L.take (j + 1)).filter fun i => decide (i < m)).length = ((L.take j).filter fun i => decide (i < m)).length := by
            rw [List.take_succ_eq_append_getElem hjl, List.filter_append, ← HIN.out.1]
            simp [him]
          rw [← ew5]
          clear ew5 KA4 hgv4 q4 f4 HO4 HG4 HB4 iL3 il3 ir3 ivf3 ine3 iK3 HI3 q0 f0 hgl3
          generalize hVL : ((.slice al0 ((L.take j).filter fun i => decide (i < m)).length cl0) : Value) = VL at *
          generalize hVR : ((.slice va1 (((L.take j).filter fun i => !decide (i < m)).length + 1) vc1) : Value) = VR at *
          have hVS : ∃ a c, VL = .slice a (((L.take j).filter fun i => decide (i < m)).length) c := ⟨_, _, hVL.symm⟩
          clear hVL hVR
          obtain ⟨aV, cV, rfl⟩ := hVS
          obtain ⟨A, hAA⟩ : ∃ A, A = ((L.take j).filter fun i => decide (i < m)).length := ⟨_, rfl⟩
          first | rw [← hAA] at hA HI5 ⊢ | rw [← hAA] at hA HI5
          have HA := Lib.hid hA
          have hA3 : A ≤ 1000001 := by omega
          clear hA hAA
          obtain ⟨iL5, il5, ir5, ivf5, ine5, iK5⟩ := HI5.out
          have hgl5 : gl < w5.heap.size := by have := iK5.size; omega
          have g1 := cell_belowW ((iL5.get hlt).2.trans (by rw [upd_same]))
          have g2 := cell_belowW ((iL5.get hltl).1.trans (by rw [upd_ne (by omega), upd_same]))
          have f2 := iL5.frozenAt (K * 2 + 1)
          have q2 := (iL5.get hlt).2
          rw [upd_same] at q2
          have HVF5 := Lib.hid ivf5
          have hgvf : ¬ vf.ownBlock = some gl := fun h => rows_ne iL5 ivf5 (by decide) gl rfl h
          have hK5 := iK5.size
          clear iL5 il5 ir5 ivf5 ine5 iK5
          refine wp_region_head (fun W => ∃ p : BelowW w5, W = p.W) [11, 12, 13, 14] [(0, false), (1, false), (2, false), (3, false), (4, true), (5, false), (6, false), (7, false), (8, true), (9, false)] (by kernel_rfl) (by kernel_rfl) (fun _ _ d _ _ h => by cases d <;> exact h) ⟨⟨_, (Below.refl _ _).drew⟩, rfl⟩ 5 rfl (by kernel_rfl) ?_
          simp only [pickB, List.filterMap_cons, List.filterMap_nil, List.getElem?_toArray, List.getElem?_cons_succ, List.getElem?_cons_zero, Option.map_some]
          repeat (refine wpHd_step (fun K hK => ?_); go_simp; first | (refine hK _ ?_; clear hK K) | (apply Exists.intro; refine ⟨fun _ => ?_, hK _ ?_⟩; rfl; clear hK K))
          refine wpHd_nil ?_
          refine wpAnyT_ready [10] (by kernel_rfl) (by simp) ?_
          refine AllReadyT.cons rfl (fun K hK => ?_) AllReadyT.nil
          go_simp
          refine hK _ _ (fun _ _ => ⟨⟨_, (Below.refl _ w5).alloc (Nat.le_refl _) _ |>.drew⟩, rfl⟩) ?_
          clear hK K
          refine wpAnyT_ready [11] (by kernel_rfl) (by simp) ?_
          refine AllReadyT.cons rfl (fun K hK => ?_) AllReadyT.nil
          refine step_append1E elInt fb (w := (w5.alloc (.cells #[.int .i64 A] 3)).drew) (ownsRow_below HVF5.out ((Below.refl _ w5).alloc (Nat.le_refl _) _ |>.drew)) [.int .i64 A] rfl (by simp [Value.oneCell']) rfl (.tmp 92) (.tmp 98) rfl rfl w5.heap.size rfl (lit0d _ _) (by unfold maxLen; omega) (by omega) (by simp; omega) ?_
          intro ga capa w7 hown7 hg7 hblk7 hlt7
          refine hK _ _ (fun _ h => absurd (by simp) h) ?_
          clear hK K
          refine wpAnyT_line [12, 13, 14] _ _ _ (by kernel_rfl) ?_
          simp only [pick, List.filterMap_cons, List.filterMap_nil, List.getElem?_toArray, List.getElem?_cons_succ, List.getElem?_cons_zero]
          have hg57 : w5.grownBy w7 vf.ownBlock := grownBy_trans (below_asGrown ((Below.refl _ w5).alloc (Nat.le_refl _) _ |>.drew)) hg7
          have KA7 : KpS (fun k => vf.ownBlock = some k) w5 w7 := (KpS.refl _ w5).grown hg57 (fun k hk => .inl hk)
          obtain ⟨ck7, fk7⟩ := cellK KA7 hgl5 hgvf
          have q7 := (ck7 (K * 2 + 1)).trans q2
          have f7 := (fk7 (K * 2 + 1)).trans f2
          have HI7 : Hid (SprI w2 base gl N.length cl LN LL K kl kr m fb nm L (j + 1) (j + 1) (w7.setCell ⟨gl, K * 2 + 1, none⟩ (.slice (some ⟨ga, 0, none⟩) (j + 1 + 1) capa)) (.slice aV A cV) VR (.slice (some ⟨ga, 0, none⟩) (j + 1 + 1) capa)) :=
            SprI.lefts HI5.out hjl hlt (by omega) hw2 hgf (by rw [HA.out]; exact hown7) hg57
          clear ck7 fk7 KA7 hg57 hg7 hown7 q2 f2 g1 g2 HVF5 HI5
          go_wp2
          go_roundg (L.length - (j + 1))
          case measure => omega
          case rel => exact ⟨j + 1, _, _, _, by go_num, by omega, Nat.le_refl _, HI7⟩
      · obtain rfl : j = L.length := by omega
        clear iL il ir ivf ine iK u1 u4 up
        go_wp2
        first | go_end0 | go_ret
        obtain ⟨iL, il, ir, ivf, ine, iK⟩ := HI.out
        have hs2 := HK2.out.size
        have hll := lf_len m L
        simp only [List.take_length] at iL il ir ine
        rw [List.take_of_length_le (Nat.le_of_eq hll), ← hll] at ivf
        exact ⟨rfl, _, _, _, iL, rowMono il (by omega), rowMono ir (by omega), rowMono ivf (by omega), ine,
          ((HK2.out.mono (S' := fun k => k = gl ∨ w.heap.size ≤ k) (fun k h => .inl h)).trans (iK.mono (fun k h => by rcases h with h | h; exact .inl h; exact .inr (by omega)))).strip⟩

end Go.Proofs.YtggfdlanobndjaaGreat

/- cascade.spread at a leaf. -/
namespace Go.Proofs.YtggfdlanobndjaaGreat
open Go.RowKit Go.Sort Go.Shelf Go.Lib Go.Maps
attribute [local irreducible] wpQuiet
attribute [local go_sem] Oper.still1
set_option linter.unusedSimpArgs false
set_option linter.unusedVariables false

set_option maxRecDepth 100000 in
set_option maxHeartbeats 2000000 in
theorem casc_spread_leaf (a s tb gn off cn gl cl base K pm : Nat) (N : List Nd) (LN LL : Nat → Value) (w : World) (ha : FT.At N (.leaf a) s) (hK : (FT.leaf a).root s = K) (hN : N.length ≤ 1000000)
    (c4 : w.cell? ⟨tb, 4, none⟩ = some (.slice (some ⟨gn, off, none⟩) N.length cn)) (r4 : RdK eNd 7 w (some ⟨gn, off, none⟩) N) (c5 : w.cell? ⟨tb, 5, none⟩ = some (.slice (some ⟨gl, 0, none⟩) N.length cl))
    (hlst : LsRow w base gl N.length cl LN LL) :
    Calls Tryz.prog 64 #[.pointer (some ⟨tb, 0, none⟩), .int .i64 K, .map (some pm)] w fun e w' => e = .returned (.tuple #[]) ∧ ∃ vf, (∃ a m c, vf = .slice a m c) ∧ LsRow w' base gl N.length cl LN (upd LL K vf) ∧ (∀ g, vf.ownBlock = some g → w.heap.size ≤ g ∧ g < w'.heap.size) ∧ KpS (fun b => b = gl) w w' := by
  obtain ⟨hgn, n0, n1, n2, n3, n4, n5, n6⟩ := nd_all r4 ha.get
  have hlt := ha.lt
  have htl := World.block_lt_of_cell? w _ c4
  have hgl : gl < w.heap.size := (hlst.lt gl rfl).2
  simp only at htl
  simp only [FT.top] at n0 n1 n2 n3 n4 n6
  rw [hK] at n0 n1 n2 n3 n4 n5 n6 hlt
  have HLST := Lib.hid hlst
  have fr1 := hlst.frozenAt (K * 2 + 1)
  obtain ⟨q0, q1⟩ := hlst.get hlt
  have C4 := Lib.hid c4
  have R4 := Lib.hid r4
  have C5 := Lib.hid c5
  obtain ⟨ql, hql⟩ : ∃ ql, ql = LL K := ⟨_, rfl⟩
  rw [← hql] at q1
  clear hlst r4 hql
  go_enter Tryz.func64, Tryz.ntmps64
  go_upto_region 0 with fail
  go_cut [6, 7] from 6 (fun v6 v7 wx => ∃ x : Nat, v6 = .pointer (some ⟨x, 0, none⟩) ∧ v7 = .pointer (some ⟨gl, K * 2, none⟩) ∧ Hid (wx.heap[x]? = some (.cells #[.int .u8 1, .int .i64 (-1), .int .i64 (-1), .int .i64 a, .int .i64 (a + 1), .int .i64 0, .int .i64 a] 119 (0, 0))) ∧ Hid (Below w.heap.size w wx) ∧ w.heap.size ≤ x)
  case first =>
    have g4 := cell_belowW c4
    have g5 := cell_belowW c5
    have k0 := cell_belowW n0
    have k1 := cell_belowW n1
    have k2 := cell_belowW n2
    have k3 := cell_belowW n3
    have k4 := cell_belowW n4
    have k5 := cell_belowW n5
    have k6 := cell_belowW n6
    clear c4 c5 n0 n1 n2 n3 n4 n5 n6
    refine wp_region_head (fun W => ∃ p : BelowW w, W = p.W) [15] [(0, false), (1, false), (2, false), (3, true), (4, false), (5, false), (6, true), (7, false), (8, false), (9, false), (10, true), (11, false), (12, false)] (by kernel_rfl) (by kernel_rfl) (fun _ _ d _ _ h => by cases d <;> exact h) ⟨⟨_, (Below.refl _ _).drew⟩, rfl⟩ 3 rfl (by kernel_rfl) ?_
    simp only [pickB, List.filterMap_cons, List.filterMap_nil, List.getElem?_toArray, List.getElem?_cons_succ, List.getElem?_cons_zero, Option.map_some]
    repeat (refine wpHd_step (fun K hK => ?_); go_simp; first | (refine hK _ ?_; clear hK K) | (apply Exists.intro; refine ⟨fun _ => ?_, hK _ ?_⟩; rfl; clear hK K))
    refine wpHd_nil ?_
    refine wpAnyT_ready [13] (by kernel_rfl) (by simp) ?_
    refine AllReadyT.cons rfl (fun K hK => ?_) AllReadyT.nil
    go_simp
    refine hK _ _ (fun _ _ => ⟨⟨_, (Below.refl _ w).alloc (Nat.le_refl _) _ |>.drew⟩, rfl⟩) ?_
    clear hK K
    refine wpAnyT_ready [14] (by kernel_rfl) (by simp) ?_
    refine AllReadyT.cons rfl (fun K hK => ?_) AllReadyT.nil
    go_simp
    refine hK _ _ (fun _ _ => ⟨⟨_, (Below.refl _ w).alloc (Nat.le_refl _) _ |>.drew⟩, rfl⟩) ?_
    clear hK K
    refine wpAnyT_line [15] _ _ _ (by kernel_rfl) ?_
    simp only [pick, List.filterMap_cons, List.filterMap_nil, List.getElem?_toArray, List.getElem?_cons_succ, List.getElem?_cons_zero]
    go_wp2
    go_meet
    exact ⟨w.heap.size, rfl, rfl, lit0d _ _, (Below.refl _ w).alloc (Nat.le_refl _) _ |>.drew, Nat.le_refl _⟩
  case rest =>
    obtain ⟨x, rfl, rfl, HX, HB, hx⟩ := hcut
    have hxl : x < wc.heap.size := (Array.getElem?_eq_some_iff.1 HX.out).1
    have HL0 : Hid (LsRow wc base gl N.length cl LN LL) := ownsRow_below HLST.out HB.out
    have fr2 := HL0.out.frozenAt (K * 2 + 1)
    have m1 := (HL0.out.get hlt).2
    obtain ⟨ql2, hql2⟩ : ∃ ql2, ql2 = LL K := ⟨_, rfl⟩
    rw [← hql2] at m1
    clear hql2
    have a1 : (wc.alloc (.cells #[.int .i64 0] 3)).cell? ⟨gl, K * 2 + 1, none⟩ = some ql2 := (((Below.refl wc.heap.size wc).alloc (Nat.le_refl _) _).cell (p := ⟨gl, K * 2 + 1, none⟩) (by have := HB.out.size; show gl < _; omega)).trans m1
    have a2 : (wc.alloc (.cells #[.int .i64 0] 3)).frozen? ⟨gl, K * 2 + 1, none⟩ = false := (((Below.refl wc.heap.size wc).alloc (Nat.le_refl _) _).frozen (p := ⟨gl, K * 2 + 1, none⟩) (by have := HB.out.size; show gl < _; omega)).trans fr2
    clear n0 n1 n2 n3 n4 n5 n6 c4 c5 fr1 q0 q1
    have hsz := HB.out.size
    obtain ⟨W1, eW1⟩ : ∃ W1, W1 = (wc.alloc (.cells #[.int .i64 0] 3)).setCell ⟨gl, K * 2 + 1, none⟩ (.slice (some ⟨wc.heap.size, 0, none⟩) 1 1) := ⟨_, rfl⟩
    have KW : KpS (fun b => b = gl) wc W1 := by rw [eW1]; exact ((KpS.refl (fun b => b = gl) wc).alloc _).set (a := ⟨gl, K * 2 + 1, none⟩) _ (.inl rfl)
    have HS : Hid (LsRow W1 base gl N.length cl LN (upd LL K (.slice (some ⟨wc.heap.size, 0, none⟩) 1 1))) := by rw [eW1]; exact LsRow.setL (ownsRow_below HL0.out ((Below.refl _ _).alloc (Nat.le_refl _) _)) hlt _
    have HK : Hid (KpS (fun b => b = gl) w W1) := ((KpS.refl (fun b => b = gl) w).below HB.out).trans KW
    have hW1 : W1.heap.size = wc.heap.size + 1 := by rw [eW1]; simp
    have hxc := HX.out
    have x0 : W1.cell? ⟨x, 0, none⟩ = some (.int .u8 1) := ((cellK KW hxl (by omega)).1 0).trans (by simp [World.cell?, hxc])
    clear hxc
    go_upto_region 2 with fail
    rw [← eW1]
    clear eW1
    go_wp2
    refine bodyPost_ret (results_none rfl _ _ _) rfl ?_
    exact ⟨rfl, .slice (some ⟨wc.heap.size, 0, none⟩) 1 1, ⟨_, _, _, rfl⟩, HS.out, fun g e => by have e9 := ownB e; omega, HK.out⟩
end Go.Proofs.YtggfdlanobndjaaGreat

/- Points by Y: item.ByY, slices.SortFunc(l, item.ByY). (Printed out of Pt, PtP and PtS.) -/
namespace Go.Proofs.YtggfdlanobndjaaGreat
open Go.RowKit Go.Sort Go.Shelf Go.Lib
def ordY (p q : Pt) : Int := if cmpI p.2.1 q.2.1 = 0 then cmpI p.2.2 q.2.2 else cmpI p.2.1 q.2.1
theorem ordY_lt (p q : Pt) : ordY p q < 0 ↔ ltY p q := by
  unfold ordY ltY cmpI
  repeat' split
  all_goals omega
theorem ordY_eq (p q : Pt) : ordY p q = 0 ↔ p.2.1 = q.2.1 ∧ p.2.2 = q.2.2 := by
  unfold ordY cmpI
  repeat' split
  all_goals omega

set_option maxHeartbeats 400000 in
theorem iByY (p q : Pt) (w : World) : Calls Tryz.prog 48 #[vPt p.1 p.2.1 p.2.2, vPt q.1 q.2.1 q.2.2] w fun e w' => e = .returned (.int .i64 (ordY p q)) ∧ Grw w w' := by
  have C1 := Lib.hid (fun W => iBy p.2.1 q.2.1 p.2.2 q.2.2 W)
  unfold ordY
  generalize (if cmpI p.2.1 q.2.1 = 0 then cmpI p.2.2 q.2.2 else cmpI p.2.1 q.2.1) = r at *
  go_enter Tryz.func48, Tryz.ntmps48
  go_wp2_with fail
  refine (C1.out _).mono ?_
  rintro e w1 ⟨rfl, h⟩
  go_wp2
  go_ret
  exact ⟨rfl, (((Grw.refl _).alloc _).alloc _).trans h⟩

theorem enters_ByY : ∀ args w, (callFunc 48 args).run Tryz.prog w = .ok (.enter 48 args) w := enters_of Tryz.func48 (by kernel_rfl) rfl

/-- l in order by Y -/
def leY (p q : Pt) : Bool := !decide (ltY q p)
def srtY (l : List Pt) : List Pt := l.mergeSort leY
theorem srtY_perm (l : List Pt) : (srtY l).Perm l := List.mergeSort_perm l leY
theorem srtY_mem (l : List Pt) (p : Pt) : p ∈ srtY l ↔ p ∈ l := (srtY_perm l).mem_iff

theorem srtY_sorted {l : List Pt} (h : (ids l).Nodup) : (srtY l).Pairwise ltY := by
  have h1 : (srtY l).Pairwise fun p q => leY p q = true := List.pairwise_mergeSort (le := leY) (fun p q r hpq hqr => by simp only [leY, Bool.not_eq_true', decide_eq_false_iff_not] at *; unfold ltY at *; omega) (fun p q => by simp only [leY, Bool.or_eq_true, Bool.not_eq_true', decide_eq_false_iff_not]; unfold ltY; omega) l
  have h2 : (ids (srtY l)).Nodup := ((srtY_perm l).map _).nodup_iff.2 h
  have h3 : (srtY l).Pairwise fun p q => p.2.2 ≠ q.2.2 := by
    unfold ids at h2
    exact List.pairwise_map.1 h2
  refine (h1.and h3).imp fun {a b} hab => ?_
  obtain ⟨ha, hb⟩ := hab
  simp only [leY, Bool.not_eq_true', decide_eq_false_iff_not] at ha
  unfold ltY at *
  omega

/-- what is sorted, and has l's points, is l in order -/
theorem srtY_eq {l S : List Pt} (h : (ids l).Nodup) (hS : S.Pairwise ltY) (hm : ∀ p, p ∈ S ↔ p ∈ l) : S = srtY l :=
  sorted_ext ltY_irr ltY_asymm hS (srtY_sorted h) fun p => by rw [hm, srtY_mem]

theorem swoY : SWO (ltOf ordY) := swo_of_lt ordY_lt ltY_irr (fun _ _ _ => ltY_trans) (fun x y z => by unfold ltY; omega)
theorem sorted_srtY {l l' : List Pt} (hu : (ids l).Nodup) (hp : l'.Perm l) (hs : l'.Pairwise fun x y => ¬ ordY y x < 0) : l' = srtY l := by
  refine srtY_eq hu ?_ fun p => hp.mem_iff
  have h2 : (ids l').Nodup := (hp.map _).nodup_iff.2 hu
  have h3 : l'.Pairwise fun p q => p.2.2 ≠ q.2.2 := List.pairwise_map.1 h2
  refine (hs.and h3).imp fun {a b} hab => ?_
  obtain ⟨ha, hb⟩ := hab
  rw [ordY_lt] at ha
  unfold ltY at *
  omega

/-- slices.SortFunc(l, item.ByY) at unlike points: the row holds them in order -/
theorem sortPtsY {w : World} {base g c n : Nat} {l : List Pt} (hn : l.length = n) (hsz : n < 4611686018427387904) (h : w.ownsRow base 34 3 (.slice (some ⟨g, 0, none⟩) n c) n (l.flatMap ePt)) (hu : (ids l).Nodup) :
    Calls Tryz.prog 44 #[.slice (some ⟨g, 0, none⟩) n c, .func (.func 48) #[] #[]] w fun e w' =>
      e = .returned (.tuple #[]) ∧ w'.ownsRow base 34 3 (.slice (some ⟨g, 0, none⟩) n c) n ((srtY l).flatMap ePt) ∧ w.grownBy w' (some g) := by
  have hc := sortFunc_owned Tryz.sortPt ePt_len (by decide) Tryz.isAgg34 Tryz.sizeOf34 ePt_one ordY swoY 48 #[] enters_ByY (fun x y W => iByY x y W) hn hsz h
  change Calls Tryz.prog 44 _ _ _ at hc
  refine hc.mono ?_
  rintro e w' ⟨he, l', hp, hs, ho, hg⟩
  rw [sorted_srtY hu hp hs] at ho
  exact ⟨he, ho, hg⟩

/-- any slice of unlike points that the call owns -/
theorem sortPtsYV {w : World} {base n : Nat} {v : Value} {l : List Pt} (hn : l.length = n) (hsz : n < 4611686018427387904) (h : w.ownsRow base 34 3 v n (l.flatMap ePt)) (hu : (ids l).Nodup) (hb : base ≤ w.heap.size) :
    Calls Tryz.prog 44 #[v, .func (.func 48) #[] #[]] w fun e w' =>
      e = .returned (.tuple #[]) ∧ w'.ownsRow base 34 3 v n ((srtY l).flatMap ePt) ∧ Below base w w' := by
  rcases h.2 with ⟨rfl, h0⟩ | ⟨g, cap, cur, rfl, hg, _⟩
  · subst h0
    obtain rfl : l = [] := List.eq_nil_of_length_eq_zero hn
    refine (sortPts_none none 0 _ w).mono ?_
    rintro e w' ⟨he, rfl⟩
    exact ⟨he, by simpa [srtY] using h, Below.refl _ _⟩
  · refine (sortPtsY hn hsz h hu).mono ?_
    rintro e w' ⟨he, ho, hgr⟩
    exact ⟨he, ho, below_of_grown hgr hb hg⟩



theorem sortPtsXK {w : World} {base n : Nat} {v : Value} {l : List Pt} (hn : l.length = n) (hsz : n < 4611686018427387904) (h : w.ownsRow base 34 3 v n (l.flatMap ePt)) (hu : (ids l).Nodup) :
    Calls Tryz.prog 44 #[v, .func (.func 45) #[] #[]] w fun e w' =>
      e = .returned (.tuple #[]) ∧ w'.ownsRow base 34 3 v n ((srtX l).flatMap ePt) ∧ KpS (fun k => v.ownBlock = some k) w w' := by
  rcases h.2 with ⟨rfl, h0⟩ | ⟨g, cap, cur, rfl, hg, _⟩
  · subst h0
    obtain rfl : l = [] := List.eq_nil_of_length_eq_zero hn
    refine (sortPts_none none 0 _ w).mono ?_
    rintro e w' ⟨he, rfl⟩
    exact ⟨he, by simpa [srtX] using h, KpS.refl _ _⟩
  · refine (sortPts hn hsz h hu).mono ?_
    rintro e w' ⟨he, ho, hgr⟩
    exact ⟨he, ho, (KpS.refl _ w).grown hgr (fun k e => .inl e)⟩

theorem sortPtsYK {w : World} {base n : Nat} {v : Value} {l : List Pt} (hn : l.length = n) (hsz : n < 4611686018427387904) (h : w.ownsRow base 34 3 v n (l.flatMap ePt)) (hu : (ids l).Nodup) :
    Calls Tryz.prog 44 #[v, .func (.func 48) #[] #[]] w fun e w' =>
      e = .returned (.tuple #[]) ∧ w'.ownsRow base 34 3 v n ((srtY l).flatMap ePt) ∧ KpS (fun k => v.ownBlock = some k) w w' := by
  rcases h.2 with ⟨rfl, h0⟩ | ⟨g, cap, cur, rfl, hg, _⟩
  · subst h0
    obtain rfl : l = [] := List.eq_nil_of_length_eq_zero hn
    refine (sortPts_none none 0 _ w).mono ?_
    rintro e w' ⟨he, rfl⟩
    exact ⟨he, by simpa [srtY] using h, KpS.refl _ _⟩
  · refine (sortPtsY hn hsz h hu).mono ?_
    rintro e w' ⟨he, ho, hgr⟩
    exact ⟨he, ho, (KpS.refl _ w).grown hgr (fun k e => .inl e)⟩

end Go.Proofs.YtggfdlanobndjaaGreat

/- What cascade.Build has laid, step by step. No function of the program is walked here. -/
namespace Go.Proofs.YtggfdlanobndjaaGreat
open Go.RowKit Go.Sort Go.Shelf Go.Lib Go.Maps
set_option linter.unusedSimpArgs false
set_option linter.unusedVariables false

/-- rows that Build has laid -/
structure BldR (w : World) (lo fb n : Nat) (rv gv nv fv : Value) (l : List Pt) : Prop where
  row : w.ownsRow lo 34 3 rv n (l.flatMap ePt)
  gon : w.ownsRow lo 4 1 gv n ((List.replicate n false).map Value.bool)
  frm : FrmAt w lo fb n fv
  lof : lo ≤ fb
  nod : w.ownsRow lo 119 7 nv (nds n).length ((nds n).flatMap eNd)

/-- blocks of another kind -/
def Else (w : World) (S : Nat → Prop) : Prop := ∀ k, k < w.heap.size → S k → ∃ cs t fr, w.heap[k]? = some (.cells cs t fr) ∧ t ≠ 34 ∧ t ≠ 4 ∧ t ≠ 149 ∧ t ≠ 119

theorem rowE {S : Nat → Prop} {w w' : World} {base : Nat} {e : TypeId} {sz : Nat} {v : Value} {n : Nat} {xs : List Value} (h : w.ownsRow base e sz v n xs) (K : KpS S w w') (hS : ∀ k, k < w.heap.size → S k → ∃ cs t fr, w.heap[k]? = some (.cells cs t fr) ∧ t ≠ e) : w'.ownsRow base e sz v n xs :=
  rowK h K fun gb he hs => by
    obtain ⟨cs, t, fr, hh, ht⟩ := hS gb (h.lt gb he).2 hs
    exact row_ne h hh ht gb he rfl

theorem BldR.kept {S : Nat → Prop} {w w' : World} {lo fb n : Nat} {rv gv nv fv : Value} {l : List Pt} (h : BldR w lo fb n rv gv nv fv l) (K : KpS S w w') (hS : Else w S) : BldR w' lo fb n rv gv nv fv l := by
  refine ⟨rowE h.row K fun k h1 h2 => ?_, rowE h.gon K fun k h1 h2 => ?_, ⟨blkK K h.frm.blk fun h2 => ?_, rowE h.frm.row K fun k h1 h2 => ?_⟩, h.lof, rowE h.nod K fun k h1 h2 => ?_⟩
  · obtain ⟨cs, t, fr, a, b, c, d, e⟩ := hS k h1 h2; exact ⟨cs, t, fr, a, b⟩
  · obtain ⟨cs, t, fr, a, b, c, d, e⟩ := hS k h1 h2; exact ⟨cs, t, fr, a, c⟩
  · have hl := (Array.getElem?_eq_some_iff.1 h.frm.blk).1
    obtain ⟨cs, t, fr, a, b, c, d, e⟩ := hS fb hl h2
    have := a.symm.trans h.frm.blk
    injection this with this
    injection this with _ this _
    exact d this
  · obtain ⟨cs, t, fr, a, b, c, d, e⟩ := hS k h1 h2; exact ⟨cs, t, fr, a, e⟩
  · obtain ⟨cs, t, fr, a, b, c, d, e⟩ := hS k h1 h2; exact ⟨cs, t, fr, a, e⟩

abbrev cscB (rv xv gv : Value) (fb : Nat) (nv lv yv : Value) (n : Nat) : Obj := .cells #[rv, xv, gv, .pointer (some ⟨fb, 0, none⟩), nv, lv, yv, .int .i64 n] 110 (0, 0)

theorem ent_clonePts : ∀ args w, (callFunc 42 args).run Tryz.prog w = .ok (.enter 42 args) w := enters_of Tryz.func42 (by kernel_rfl) rfl
theorem ent_froot : ∀ args w, (callFunc 51 args).run Tryz.prog w = .ok (.enter 51 args) w := enters_of Tryz.func51 (by kernel_rfl) rfl
theorem ent_fnodes : ∀ args w, (callFunc 43 args).run Tryz.prog w = .ok (.enter 43 args) w := enters_of Tryz.func43 (by kernel_rfl) rfl


theorem info_bool : ∃ i, Tryz.prog.info? 4 = some i ∧ i.zero = some (.bool false) ∧ i.size = 1 ∧ i.bytes = 1 := by
  have h : (Tryz.prog.info? 4).map (fun i => (i.zero, i.size, i.bytes)) = some (some (.bool false), 1, 1) := by kernel_rfl
  cases hi : Tryz.prog.info? 4 with
  | none => rw [hi] at h; cases h
  | some i => rw [hi] at h; injection h with h; injection h with h1 h2; injection h2 with h2 h3; exact ⟨i, rfl, h1, h2, h3⟩
theorem info_list : ∃ i, Tryz.prog.info? 112 = some i ∧ i.zero = some (.agg #[.slice none 0 0, .slice none 0 0]) ∧ i.size = 2 ∧ i.bytes = 48 := by
  have h : (Tryz.prog.info? 112).map (fun i => (i.zero, i.size, i.bytes)) = some (some (.agg #[.slice none 0 0, .slice none 0 0]), 2, 48) := by kernel_rfl
  cases hi : Tryz.prog.info? 112 with
  | none => rw [hi] at h; cases h
  | some i => rw [hi] at h; injection h with h; injection h with h1 h2; injection h2 with h2 h3; exact ⟨i, rfl, h1, h2, h3⟩

theorem mk_bools (n : Nat) (hn : n ≤ 1000000) (W : World) : (Instr.makeSlice 48 (.int .i64 n) (.int .i64 n)).run Tryz.prog W = .ok (.slice (some ⟨W.heap.size, 0, none⟩) n n) (W.alloc (.cells (madeCells #[.bool false] n) 4)) := by
  obtain ⟨i, hi, hz, hs, hb⟩ := info_bool
  have h := run_make (P := Tryz.prog) W 48 4 i (.bool false) Tryz.underlying48 hi hz .i64 .i64 n n (by omega) (Int.le_refl _) (by rw [hb]; omega) (by omega)
  rw [h, Int.toNat_natCast, hs, Nat.mul_one]
  rfl
theorem mk_lists (n : Nat) (hn : n ≤ 1000000) (W : World) : (Instr.makeSlice 108 (.int .i64 n) (.int .i64 n)).run Tryz.prog W = .ok (.slice (some ⟨W.heap.size, 0, none⟩) n n) (W.alloc (.cells (madeCells #[.slice none 0 0, .slice none 0 0] (n * 2)) 112)) := by
  obtain ⟨i, hi, hz, hs, hb⟩ := info_list
  have h := run_make (P := Tryz.prog) W 108 112 i (.agg #[.slice none 0 0, .slice none 0 0]) Tryz.underlying108 hi hz .i64 .i64 n n (by omega) (Int.le_refl _) (by rw [hb]; omega) (by omega)
  rw [h, Int.toNat_natCast, hs]
  rfl
theorem row_bools (W : World) (base n : Nat) (hb : base ≤ W.heap.size) (hn : n ≤ 1000000) : (W.alloc (.cells (madeCells #[.bool false] n) 4)).ownsRow base 4 1 (.slice (some ⟨W.heap.size, 0, none⟩) n n) n ((List.replicate n false).map Value.bool) := by
  have h := World.ownsRow_lit (e := 4) (size := 1) W (madeCells #[.bool false] n) n hb (by unfold maxLen; omega) (by rw [size_madeCells, Nat.mul_one])
  rwa [toList_madeCells_one, ← List.map_replicate] at h
theorem row_lists (W : World) (base n : Nat) (hb : base ≤ W.heap.size) (hn : n ≤ 1000000) : LsRow (W.alloc (.cells (madeCells #[.slice none 0 0, .slice none 0 0] (n * 2)) 112)) base W.heap.size n n (fun _ => .slice none 0 0) (fun _ => .slice none 0 0) := by
  have h := World.ownsRow_lit (e := 112) (size := 2) W (madeCells #[.slice none 0 0, .slice none 0 0] (n * 2)) n hb (by unfold maxLen; omega) (by rw [size_madeCells])
  have e : (madeCells #[.slice none 0 0, .slice none 0 0] (n * 2)).toList = lsF (fun _ => .slice none 0 0) (fun _ => .slice none 0 0) n := by
    apply List.ext_getElem?
    intro i
    by_cases hi : i < n * 2
    · have hd : i / 2 < n := by omega
      obtain ⟨a1, a2⟩ := lsF_get (fun _ => .slice none 0 0) (fun _ => .slice none 0 0) hd
      have e1 : (madeCells #[.slice none 0 0, .slice none 0 0] (n * 2)).toList[i]? = some (.slice none 0 0) := by
        simp only [madeCells, Array.getElem?_toList, Array.getElem?_map, Array.getElem?_range, hi, if_true, Option.map_some]
        rcases Nat.mod_two_eq_zero_or_one i with hm | hm <;> simp [hm]
      rw [e1]
      rcases Nat.mod_two_eq_zero_or_one i with hm | hm
      · rw [show i = i / 2 * 2 by omega, a1]
      · rw [show i = i / 2 * 2 + 1 by omega, a2]
    · rw [List.getElem?_eq_none (by simp [size_madeCells]; omega), List.getElem?_eq_none (by rw [lsF_len]; omega)]
  rw [e] at h
  exact h

theorem rowN {w3 w5 : World} {base fb n : Nat} {d m0 : Int} {nv0 : Value} {e : TypeId} {sz : Nat} {v : Value} {m : Nat} {xs : List Value} (h : w3.ownsRow base e sz v m xs) (he : e ≠ 149) (hf : w3.heap[fb]? = some (oFrm d m0 nv0 n)) (hk : KpS (fun k => k = fb) w3 w5) : w5.ownsRow base e sz v m xs :=
  rowK h hk fun g e1 e2 => row_ne h hf (Ne.symm he) g e1 e2.symm

theorem rowM {w w' : World} {pm : Nat} {es : Array MapEntry} {ck : Nat} {base : Nat} {e : TypeId} {sz : Nat} {v : Value} {n : Nat} {xs : List Value} (h : w.ownsRow base e sz v n xs) (K : KpS (fun k => k = pm) w w') (hm : w.heap[pm]? = some (.map es ck)) : w'.ownsRow base e sz v n xs :=
  rowK h K fun gb he hs => by
    subst hs
    rcases h.2 with ⟨rfl, -⟩ | ⟨g, cap, cur, rfl, -, hh, -⟩
    · cases he
    · injection he with he
      subst he
      rw [hh] at hm
      cases hm
theorem BldR.keptM {w w' : World} {pm : Nat} {es : Array MapEntry} {ck : Nat} {lo fb n : Nat} {rv gv nv fv : Value} {l : List Pt} (h : BldR w lo fb n rv gv nv fv l) (K : KpS (fun k => k = pm) w w') (hm : w.heap[pm]? = some (.map es ck)) : BldR w' lo fb n rv gv nv fv l :=
  ⟨rowM h.row K hm, rowM h.gon K hm, ⟨blkK K h.frm.blk (fun e => by subst e; have h9 := h.frm.blk.symm.trans hm; cases h9), rowM h.frm.row K hm⟩, h.lof, rowM h.nod K hm⟩

/-- indices of the row by Y -/
def ysOf (R : List Pt) : List Nat := (srtY R).map fun p => R.idxOf p
theorem ysOf_pt {R : List Pt} {i : Nat} (hi : i < (ysOf R).length) : ptAt R (ysOf R)[i] = (srtY R)[i]'(by simpa [ysOf] using hi) := by
  have h1 : i < (srtY R).length := by simpa [ysOf] using hi
  have hm : (srtY R)[i] ∈ R := (srtY_mem R _).1 (List.getElem_mem h1)
  have hl := List.idxOf_lt_length_of_mem hm
  simp only [ysOf, List.getElem_map, ptAt]
  rw [List.getD_eq_getElem?_getD, List.getElem?_eq_getElem hl]
  simp
theorem ysOf_len (R : List Pt) : (ysOf R).length = R.length := by simp [ysOf, (srtY_perm R).length_eq]
theorem idx_pt {R : List Pt} {p : Pt} (h : p ∈ R) : ptAt R (R.idxOf p) = p := by
  have hl := List.idxOf_lt_length_of_mem h
  simp only [ptAt]
  rw [List.getD_eq_getElem?_getD, List.getElem?_eq_getElem hl]
  simp
theorem ysOf_wf {R : List Pt} (hx : R.Pairwise ltX) (hu : (ids R).Nodup) : CscWF R (List.replicate R.length false) (ysOf R) := by
  have hnd : R.Nodup := hx.imp fun {a b} h e => by subst e; exact ltX_irr _ h
  have hnY : (srtY R).Nodup := (srtY_perm R).nodup_iff.2 hnd
  refine ⟨hx, hu, by simp, ?_, fun i => ?_, ?_⟩
  · unfold ysOf
    refine List.pairwise_map.2 (List.Pairwise.imp_of_mem (fun {p q} hp hq h e => h ?_) hnY)
    rw [← idx_pt ((srtY_mem R p).1 hp), ← idx_pt ((srtY_mem R q).1 hq), e]
  · rw [List.getElem?_replicate]
    constructor
    · intro h
      unfold ysOf at h
      obtain ⟨p, hp, rfl⟩ := List.mem_map.1 h
      rw [if_pos (List.idxOf_lt_length_of_mem ((srtY_mem R p).1 hp))]
    · intro h
      have hi : i < R.length := by
        by_cases h9 : i < R.length
        · exact h9
        · rw [if_neg h9] at h; cases h
      unfold ysOf
      refine List.mem_map.2 ⟨R[i], (srtY_mem R _).2 (List.getElem_mem hi), ?_⟩
      exact List.Nodup.idxOf_getElem hnd i hi
  · unfold ysOf
    refine List.pairwise_map.2 (List.Pairwise.imp_of_mem (fun {p q} hp hq h => ?_) (srtY_sorted hu))
    rw [idx_pt ((srtY_mem R p).1 hp), idx_pt ((srtY_mem R q).1 hq)]
    exact h

end Go.Proofs.YtggfdlanobndjaaGreat

/- cascade.Build: what the last loop keeps. No function of the program is walked here. -/
namespace Go.Proofs.YtggfdlanobndjaaGreat
open Go.RowKit Go.Sort Go.Shelf Go.Lib Go.Maps
set_option linter.unusedSimpArgs false
set_option linter.unusedVariables false

theorem nds_eq {j : Nat} (h : 0 < j) : nds j = (mkT 0 j).nodes 0 := by unfold nds; rw [if_neg (by omega)]
theorem nds_pos {j : Nat} {t : FT} {s : Nat} (h : FT.At (nds j) t s) : 0 < j := by
  have := h.lt
  rw [nds_len] at this
  omega
theorem nds_root {j : Nat} (h : 0 < j) : (mkT 0 j).root 0 = 2 * j - 2 := by
  have := mkT_size 0 j h
  unfold FT.root
  omega
/-- what stands at an index -/
theorem nds_get {j k : Nat} (h : k < (nds j).length) : ∃ t s, FT.At (nds j) t s ∧ t.root s = k := by
  have hj : 0 < j := by rw [nds_len] at h; omega
  have hT := nds_at j hj
  rw [nds_eq hj] at h hT ⊢
  rw [FT.nodes_len] at h
  have h2 : k < ((mkT 0 j).subs 0).length := by rw [FT.subs_len]; exact h
  exact ⟨_, _, FT.subs_at _ 0 hT _ (List.getElem_mem h2), by rw [FT.subs_root]; omega⟩

abbrev kidOf (t : FT) (s : Nat) (l r : FT) (q : Nat) : Prop := (t = l ∧ s = q) ∨ (t = r ∧ s = q + l.size)

/-- the nodes from m on are spread -/
structure SpSt (w : World) (B j : Nat) (R : List Pt) (YS : List Nat) (m : Nat) (LN LL : Nat → Value) : Prop where
  fil : ∀ t s, FT.At (nds j) t s → (t.root s = 2 * j - 2 ∨ ∃ l r q, FT.At (nds j) (.node l r) q ∧ m ≤ (FT.node l r).root q ∧ kidOf t s l r q) → w.ownsRow B 32 1 (LN (t.root s)) (nl YS t).length (((nl YS t).map (nmR R)).map (Value.int .u32))
  emp : ∀ l r q, FT.At (nds j) (.node l r) q → (FT.node l r).root q < m → LN (l.root q) = .slice none 0 0 ∧ LN (r.root (q + l.size)) = .slice none 0 0
  lef : ∀ l r q, FT.At (nds j) (.node l r) q → m ≤ (FT.node l r).root q → w.ownsRow B 3 1 (LL ((FT.node l r).root q)) (lf l.hi (nl YS (.node l r))).length ((lf l.hi (nl YS (.node l r))).map (Value.int .i64))
  sli : ∀ k, k < (nds j).length → m ≤ k → (∃ a n c, LL k = .slice a n c) ∧ ∀ g, (LL k).ownBlock = some g → B ≤ g ∧ g < w.heap.size
  nil : ∀ k, k < m → LL k = .slice none 0 0
  blkN : ∀ k, k < (nds j).length → ∀ g, (LN k).ownBlock = some g → B ≤ g ∧ g < w.heap.size
  neN : ∀ i k, i < (nds j).length → k < (nds j).length → i ≠ k → ∀ g, (LN i).ownBlock = some g → (LN k).ownBlock ≠ some g
  neL : ∀ i k, i < (nds j).length → k < (nds j).length → i ≠ k → ∀ g, (LL i).ownBlock = some g → (LL k).ownBlock ≠ some g

section
variable {w w' : World} {B base gl n c j k : Nat} {R : List Pt} {YS : List Nat} {LN LL : Nat → Value}
theorem SpSt.leaf (h : SpSt w B j R YS (k + 1) LN LL) (hL : LsRow w base gl n c LN LL) {a s : Nat} (ha : FT.At (nds j) (.leaf a) s) (hk : (FT.leaf a).root s = k) (hK : KpS (fun b => b = gl) w w') (hB : B ≤ w.heap.size) {vf : Value} (hs : ∃ a m c, vf = .slice a m c) (hv : ∀ g, vf.ownBlock = some g → w.heap.size ≤ g ∧ g < w'.heap.size) :
    SpSt w' B j R YS k LN (upd LL k vf) := by
  have hno : ∀ l r q, FT.At (nds j) (.node l r) q → k ≤ (FT.node l r).root q → k + 1 ≤ (FT.node l r).root q := fun l r q h1 h2 => by
    by_cases e : (FT.node l r).root q = k
    · have := (FT.At.unique ha h1 (by rw [hk, e])).1
      cases this
    · omega
  have hkl : k < (nds j).length := hk ▸ ha.lt
  have hsz := hK.size
  refine ⟨fun t s' h1 h2 => ?_, fun l r q h1 h2 => h.emp l r q h1 (by omega), fun l r q h1 h2 => ?_, fun i h1 h2 => ?_, fun i h1 => ?_, fun i h1 g h2 => ?_, h.neN, fun i i' h1 h2 h3 g h4 h5 => ?_⟩
  · have h3 := h.fil t s' h1 (h2.imp id fun ⟨l, r, q, a1, a2, a3⟩ => ⟨l, r, q, a1, hno l r q a1 a2, a3⟩)
    exact rowK h3 hK fun g e1 e2 => rows_ne hL h3 (by decide) g (by rw [e2]; rfl) e1
  · have h4 := hno l r q h1 h2
    have h3 := h.lef l r q h1 h4
    rw [upd_ne (by omega)]
    exact rowK h3 hK fun g e1 e2 => rows_ne hL h3 (by decide) g (by rw [e2]; rfl) e1
  · by_cases e : i = k
    · subst e
      rw [upd_same]
      exact ⟨hs, fun g hg => by have := hv g hg; omega⟩
    · rw [upd_ne e]
      obtain ⟨a1, a2⟩ := h.sli i h1 (by omega)
      exact ⟨a1, fun g hg => by have := a2 g hg; omega⟩
  · rw [upd_ne (by omega)]
    exact h.nil i (by omega)
  · have := h.blkN i h1 g h2
    omega
  · have old : ∀ i, i < (nds j).length → i ≠ k → ∀ g, (LL i).ownBlock = some g → g < w.heap.size := fun i hi hne g hg => by
      by_cases e : i < k
      · rw [h.nil i (by omega)] at hg; cases hg
      · exact ((h.sli i hi (by omega)).2 g hg).2
    by_cases e : i = k
    · subst e
      rw [upd_same] at h4
      rw [upd_ne (Ne.symm h3)] at h5
      have := old i' h2 (Ne.symm h3) g h5
      have := hv g h4
      omega
    · rw [upd_ne e] at h4
      by_cases e' : i' = k
      · subst e'
        rw [upd_same] at h5
        have := old i h1 e g h4
        have := hv g h5
        omega
      · rw [upd_ne e'] at h5
        exact h.neL i i' h1 h2 h3 g h4 h5

theorem SpSt.node (h : SpSt w B j R YS (k + 1) LN LL) (hL : LsRow w base gl n c LN LL) {l r : FT} {s : Nat} (ha : FT.At (nds j) (.node l r) s) (hw : (FT.node l r).wf) (hk : (FT.node l r).root s = k) (hK : KpS (fun b => b = gl) w w') (hB : B ≤ w.heap.size) {vl vr vf : Value}
    (hvl : w'.ownsRow w.heap.size 32 1 vl ((nl YS (.node l r)).filter fun i => decide (i < l.hi)).length ((((nl YS (.node l r)).filter fun i => decide (i < l.hi)).map (nmR R)).map (Value.int .u32)))
    (hvr : w'.ownsRow w.heap.size 32 1 vr ((nl YS (.node l r)).filter fun i => !decide (i < l.hi)).length ((((nl YS (.node l r)).filter fun i => !decide (i < l.hi)).map (nmR R)).map (Value.int .u32)))
    (hvf : w'.ownsRow w.heap.size 3 1 vf (lf l.hi (nl YS (.node l r))).length ((lf l.hi (nl YS (.node l r))).map (Value.int .i64))) (hne : ∀ g, vl.ownBlock = some g → vr.ownBlock ≠ some g) :
    SpSt w' B j R YS k (upd (upd LN (l.root s) vl) (r.root (s + l.size)) vr) (upd LL k vf) := by
  have hj := nds_pos ha
  have hkk := FT.kids_ne l r s
  have hltl := ha.left.lt
  have hltr := ha.right.lt
  have hkr := FT.kid_ne_root (nds_eq hj ▸ ha)
  rw [nds_root hj] at hkr
  have huq : ∀ l' r' q, FT.At (nds j) (.node l' r') q → (FT.node l' r').root q = k → l' = l ∧ r' = r ∧ q = s := fun l' r' q h1 h2 => by
    obtain ⟨e1, e2⟩ := FT.At.unique h1 ha (by rw [h2, hk])
    cases e1
    exact ⟨rfl, rfl, e2⟩
  have hot : ∀ l' r' q, FT.At (nds j) (.node l' r') q → (FT.node l' r').root q ≠ k → l'.root q ≠ l.root s ∧ l'.root q ≠ r.root (s + l.size) ∧ r'.root (q + l'.size) ≠ l.root s ∧ r'.root (q + l'.size) ≠ r.root (s + l.size) := fun l' r' q h1 h2 => by
    have hu := fun e => h2 ((FT.kid_unique (nds_eq hj ▸ h1) (nds_eq hj ▸ ha) e).trans hk)
    exact ⟨fun e => hu (.inl e), fun e => hu (.inr (.inl e)), fun e => hu (.inr (.inr (.inl e))), fun e => hu (.inr (.inr (.inr e)))⟩
  have hsz := hK.size
  have hvl1 := hvl.lt
  have hvr1 := hvr.lt
  have hvf1 := hvf.lt
  have keepU : ∀ {v : Value} {m : Nat} {xs : List Value}, w.ownsRow B 32 1 v m xs → w'.ownsRow B 32 1 v m xs := fun h3 => rowK h3 hK fun g e1 e2 => rows_ne hL h3 (by decide) g (by rw [e2]; rfl) e1
  have keepI : ∀ {v : Value} {m : Nat} {xs : List Value}, w.ownsRow B 3 1 v m xs → w'.ownsRow B 3 1 v m xs := fun h3 => rowK h3 hK fun g e1 e2 => rows_ne hL h3 (by decide) g (by rw [e2]; rfl) e1
  refine ⟨fun t s' h1 h2 => ?_, fun l' r' q h1 h2 => ?_, fun l' r' q h1 h2 => ?_, fun i h1 h2 => ?_, fun i h1 => ?_, fun i h1 g h2 => ?_, fun i i' h1 h2 h3 g h4 h5 => ?_, fun i i' h1 h2 h3 g h4 h5 => ?_⟩
  · rcases h2 with h2 | ⟨l', r', q, a1, a2, a3⟩
    · rw [h2, upd_ne (Ne.symm hkr.2), upd_ne (Ne.symm hkr.1), ← h2]
      exact keepU (h.fil t s' h1 (.inl h2))
    · by_cases e : (FT.node l' r').root q = k
      · obtain ⟨rfl, rfl, rfl⟩ := huq l' r' q a1 e
        rcases a3 with ⟨rfl, rfl⟩ | ⟨rfl, rfl⟩
        · rw [upd_ne (by omega), upd_same, nl_left YS t r' hw]
          exact rowMono hvl hB
        · rw [upd_same, nl_right YS l' t hw]
          exact rowMono hvr hB
      · obtain ⟨b1, b2, b3, b4⟩ := hot l' r' q a1 e
        have h3 := h.fil t s' h1 (.inr ⟨l', r', q, a1, by omega, a3⟩)
        rcases a3 with ⟨rfl, rfl⟩ | ⟨rfl, rfl⟩
        · rw [upd_ne b2, upd_ne b1]; exact keepU h3
        · rw [upd_ne b4, upd_ne b3]; exact keepU h3
  · obtain ⟨b1, b2, b3, b4⟩ := hot l' r' q h1 (by omega)
    obtain ⟨c1, c2⟩ := h.emp l' r' q h1 (by omega)
    rw [upd_ne b2, upd_ne b1, upd_ne b4, upd_ne b3]
    exact ⟨c1, c2⟩
  · by_cases e : (FT.node l' r').root q = k
    · obtain ⟨rfl, rfl, rfl⟩ := huq l' r' q h1 e
      rw [e, upd_same]
      exact rowMono hvf hB
    · rw [upd_ne e]
      exact keepI (h.lef l' r' q h1 (by omega))
  · by_cases e : i = k
    · subst e
      rw [upd_same]
      obtain ⟨a1, c1, e1⟩ := rowV hvf
      exact ⟨⟨_, _, _, e1⟩, fun g hg => by have := hvf1 g hg; omega⟩
    · rw [upd_ne e]
      obtain ⟨a1, a2⟩ := h.sli i h1 (by omega)
      exact ⟨a1, fun g hg => by have := a2 g hg; omega⟩
  · rw [upd_ne (by omega)]
    exact h.nil i (by omega)
  · by_cases e : i = r.root (s + l.size)
    · subst e
      rw [upd_same] at h2
      have := hvr1 g h2
      omega
    · rw [upd_ne e] at h2
      by_cases e2 : i = l.root s
      · subst e2
        rw [upd_same] at h2
        have := hvl1 g h2
        omega
      · rw [upd_ne e2] at h2
        have := h.blkN i h1 g h2
        omega
  · have cls : ∀ i, i < (nds j).length → ∀ g, (upd (upd LN (l.root s) vl) (r.root (s + l.size)) vr i).ownBlock = some g → (i = r.root (s + l.size) ∧ vr.ownBlock = some g ∧ w.heap.size ≤ g) ∨ (i = l.root s ∧ vl.ownBlock = some g ∧ w.heap.size ≤ g) ∨ (i ≠ l.root s ∧ i ≠ r.root (s + l.size) ∧ (LN i).ownBlock = some g ∧ g < w.heap.size) := fun i hi g hg => by
      by_cases e : i = r.root (s + l.size)
      · subst e
        rw [upd_same] at hg
        exact .inl ⟨rfl, hg, (hvr1 g hg).1⟩
      · rw [upd_ne e] at hg
        by_cases e2 : i = l.root s
        · subst e2
          rw [upd_same] at hg
          exact .inr (.inl ⟨rfl, hg, (hvl1 g hg).1⟩)
        · rw [upd_ne e2] at hg
          exact .inr (.inr ⟨e2, e, hg, (h.blkN i hi g hg).2⟩)
    rcases cls i h1 g h4 with ⟨a1, a2, a3⟩ | ⟨a1, a2, a3⟩ | ⟨a0, a1, a2, a3⟩ <;> rcases cls i' h2 g h5 with ⟨b1, b2, b3⟩ | ⟨b1, b2, b3⟩ | ⟨b0, b1, b2, b3⟩
    · omega
    · exact hne g b2 a2
    · omega
    · exact hne g a2 b2
    · omega
    · omega
    · omega
    · omega
    · exact h.neN i i' h1 h2 h3 g a2 b2
  · have old : ∀ i, i < (nds j).length → i ≠ k → ∀ g, (LL i).ownBlock = some g → g < w.heap.size := fun i hi hne g hg => by
      by_cases e : i < k
      · rw [h.nil i (by omega)] at hg; cases hg
      · exact ((h.sli i hi (by omega)).2 g hg).2
    by_cases e : i = k
    · subst e
      rw [upd_same] at h4
      rw [upd_ne (Ne.symm h3)] at h5
      have := old i' h2 (Ne.symm h3) g h5
      have := hvf1 g h4
      omega
    · rw [upd_ne e] at h4
      by_cases e' : i' = k
      · subst e'
        rw [upd_same] at h5
        have := old i h1 e g h4
        have := hvf1 g h5
        omega
      · rw [upd_ne e'] at h5
        exact h.neL i i' h1 h2 h3 g h4 h5

/-- the list of the node that is spread next is there -/
theorem SpSt.cur (h : SpSt w B j R YS (k + 1) LN LL) {t : FT} {s : Nat} (ha : FT.At (nds j) t s) (hk : k ≤ t.root s) : w.ownsRow B 32 1 (LN (t.root s)) (nl YS t).length (((nl YS t).map (nmR R)).map (Value.int .u32)) := by
  have hj := nds_pos ha
  refine h.fil t s ha ?_
  rcases FT.at_kid (nds_eq hj ▸ ha) with ⟨rfl, rfl⟩ | ⟨l, r, q, h1, h2⟩
  · exact .inl (nds_root hj)
  · refine .inr ⟨l, r, q, nds_eq hj ▸ h1, ?_, h2⟩
    have := FT.kids_ne l r q
    rcases h2 with ⟨rfl, rfl⟩ | ⟨rfl, rfl⟩ <;> omega
theorem SpSt.all (h : SpSt w B j R YS 0 LN LL) {t : FT} {s : Nat} (ha : FT.At (nds j) t s) : w.ownsRow B 32 1 (LN (t.root s)) (nl YS t).length (((nl YS t).map (nmR R)).map (Value.int .u32)) := by
  have hj := nds_pos ha
  refine h.fil t s ha ?_
  rcases FT.at_kid (nds_eq hj ▸ ha) with ⟨rfl, rfl⟩ | ⟨l, r, q, h1, h2⟩
  · exact .inl (nds_root hj)
  · exact .inr ⟨l, r, q, nds_eq hj ▸ h1, Nat.zero_le _, h2⟩
end
end Go.Proofs.YtggfdlanobndjaaGreat
