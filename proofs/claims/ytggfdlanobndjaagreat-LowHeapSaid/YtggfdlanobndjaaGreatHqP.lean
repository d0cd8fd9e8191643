/- The plain law of a binary heap in a row: what comes up, what goes down. No function of the program is walked here. -/
import Derived.Test.YtggfdlanobndjaaGreatProg
set_option autoImplicit false
set_option linter.unusedVariables false
namespace Go.Proofs.YtggfdlanobndjaaGreat
open Go

abbrev Qf := Nat → Nat
def swp (f : Qf) (i j : Nat) : Qf := fun k => if k = i then f j else if k = j then f i else f k
theorem swp_l (f : Qf) (i j : Nat) : swp f i j i = f j := by simp [swp]
theorem swp_r (f : Qf) (i j : Nat) : swp f i j j = f i := by unfold swp; by_cases h : j = i <;> simp [h]
theorem swp_n {f : Qf} {i j k : Nat} (h1 : k ≠ i) (h2 : k ≠ j) : swp f i j k = f k := by simp [swp, h1, h2]
def qrow (f : Qf) (n : Nat) : List Nat := (List.range n).map f
theorem qrow_len (f : Qf) (n : Nat) : (qrow f n).length = n := by simp [qrow]
theorem qrow_succ (f : Qf) (n : Nat) : qrow f (n + 1) = qrow f n ++ [f n] := by simp [qrow, List.range_succ]
theorem qrow_congr {f g : Qf} {n : Nat} (h : ∀ k, k < n → f k = g k) : qrow f n = qrow g n := List.map_congr_left fun k hk => h k (List.mem_range.1 hk)
theorem qrow_mem {f : Qf} {n x : Nat} : x ∈ qrow f n ↔ ∃ k, k < n ∧ f k = x := by simp [qrow]

theorem swp_perm (f : Qf) {i j n : Nat} (hi : i < n) (hj : j < n) : (qrow (swp f i j) n).Perm (qrow f n) := by
  have e : qrow (swp f i j) n = ((List.range n).map fun k => if k = i then j else if k = j then i else k).map f := by
    unfold qrow
    rw [List.map_map]
    refine List.map_congr_left fun k _ => ?_
    show swp f i j k = f (if k = i then j else if k = j then i else k)
    unfold swp
    by_cases h1 : k = i
    · rw [if_pos h1, if_pos h1]
    · rw [if_neg h1, if_neg h1]
      by_cases h2 : k = j
      · rw [if_pos h2, if_pos h2]
      · rw [if_neg h2, if_neg h2]
  rw [e]
  refine List.Perm.map f ((List.perm_ext_iff_of_nodup ?_ List.nodup_range).2 fun x => ?_)
  · refine List.pairwise_map.2 (List.Pairwise.imp_of_mem (fun {a b} _ _ hne => ?_) (List.nodup_range (n := n)))
    intro h
    apply hne
    split at h <;> split at h <;> (try split at h) <;> (try split at h) <;> omega
  · simp only [List.mem_map, List.mem_range]
    constructor
    · rintro ⟨k, hk, rfl⟩
      split
      · exact hj
      · split
        · exact hi
        · exact hk
    · intro hx
      by_cases h1 : x = i
      · refine ⟨j, hj, ?_⟩
        by_cases h2 : j = i
        · rw [if_pos h2]; omega
        · rw [if_neg h2, if_pos rfl]; exact h1.symm
      · by_cases h2 : x = j
        · exact ⟨i, hi, by rw [if_pos rfl]; exact h2.symm⟩
        · exact ⟨x, hx, by rw [if_neg h1, if_neg h2]⟩

def par (j : Nat) : Nat := (j - 1) / 2
theorem par_lt {j : Nat} (h : 0 < j) : par j < j := by unfold par; omega
theorem par_kids {k i : Nat} (h : 0 < k) : par k = i ↔ k = 2 * i + 1 ∨ k = 2 * i + 2 := by unfold par; omega

/-- what is less: an order up to what is alike -/
structure LO (lb : Nat → Nat → Bool) : Prop where
  asy : ∀ a b, lb a b = true → lb b a = false
  tr : ∀ a b c, lb b a = false → lb c b = false → lb c a = false

def upF (lb : Nat → Nat → Bool) (f : Qf) (j : Nat) : Qf :=
  if h : 0 < j ∧ lb (f j) (f (par j)) = true then upF lb (swp f (par j) j) (par j) else f
termination_by j
decreasing_by exact par_lt h.1
/-- the lesser kid -/
def lsk (lb : Nat → Nat → Bool) (f : Qf) (i n : Nat) : Nat := if 2 * i + 2 < n ∧ lb (f (2 * i + 2)) (f (2 * i + 1)) = true then 2 * i + 2 else 2 * i + 1
theorem lsk_or (lb : Nat → Nat → Bool) (f : Qf) (i n : Nat) : lsk lb f i n = 2 * i + 1 ∨ lsk lb f i n = 2 * i + 2 := by unfold lsk; split <;> simp
theorem lsk_lt {lb : Nat → Nat → Bool} {f : Qf} {i n : Nat} (h : 2 * i + 1 < n) : lsk lb f i n < n := by unfold lsk; split <;> omega
def dnF (lb : Nat → Nat → Bool) (f : Qf) (i n : Nat) : Qf :=
  if h : 2 * i + 1 < n ∧ lb (f (lsk lb f i n)) (f i) = true then dnF lb (swp f i (lsk lb f i n)) (lsk lb f i n) n else f
termination_by n - i
decreasing_by have h1 := lsk_or lb f i n; have h2 := lsk_lt (lb := lb) (f := f) h.1; omega

def HO (lb : Nat → Nat → Bool) (f : Qf) (n : Nat) : Prop := ∀ j, 0 < j → j < n → lb (f j) (f (par j)) = false

section
variable {lb : Nat → Nat → Bool} (O : LO lb)
include O
theorem LO.le {a b : Nat} (h : lb a b = true) : lb b a = false := O.asy a b h
theorem LO.irr (a : Nat) : lb a a = false := by
  cases h : lb a a with
  | false => rfl
  | true => have := O.asy a a h; rw [h] at this; cases this

theorem upF_spec (n : Nat) : ∀ (j : Nat) (f : Qf), j < n → (∀ k, 0 < k → k < n → k ≠ j → lb (f k) (f (par k)) = false) → (∀ k, 0 < k → k < n → par k = j → 0 < j → lb (f k) (f (par j)) = false) →
    HO lb (upF lb f j) n ∧ (qrow (upF lb f j) n).Perm (qrow f n) := by
  intro j
  induction j using Nat.strongRecOn with
  | ind j ih =>
    intro f hj h1 h2
    rw [upF]
    by_cases hc : 0 < j ∧ lb (f j) (f (par j)) = true
    · rw [dif_pos hc]
      obtain ⟨hj0, hlt⟩ := hc
      have hp := par_lt hj0
      obtain ⟨p, ep⟩ : ∃ p, p = par j := ⟨_, rfl⟩
      rw [← ep] at hp hlt ⊢
      have hpj := swp_l f p j
      have hjp := swp_r f p j
      obtain ⟨a1, a2⟩ := ih p hp (swp f p j) (by omega) (fun k k0 kn kp => by
        have hk := par_lt k0
        by_cases e1 : k = j
        · subst e1
          rw [← ep, hpj, hjp]
          exact O.asy _ _ hlt
        · rw [swp_n kp e1]
          by_cases e2 : par k = p
          · rw [e2, hpj]
            have := h1 k k0 kn e1
            rw [e2] at this
            exact O.tr _ _ _ (O.asy _ _ hlt) this
          · by_cases e3 : par k = j
            · rw [e3, hjp]
              have := h2 k k0 kn e3 hj0
              rwa [← ep] at this
            · rw [swp_n e2 e3]
              exact h1 k k0 kn e1) (fun k k0 kn kp p0 => by
        have hk := par_lt k0
        have hpp := par_lt p0
        rw [swp_n (show par p ≠ p by omega) (show par p ≠ j by omega)]
        have g1 := h1 p p0 (by omega) (by omega)
        by_cases e1 : k = j
        · subst e1
          rw [hjp]
          exact g1
        · rw [swp_n (by omega) e1]
          have g2 := h1 k k0 kn e1
          rw [kp] at g2
          exact O.tr _ _ _ g1 g2)
      exact ⟨a1, a2.trans (swp_perm f (by omega) hj)⟩
    · rw [dif_neg hc]
      refine ⟨fun k k0 kn => ?_, List.Perm.refl _⟩
      by_cases e : k = j
      · subst e
        cases hb : lb (f k) (f (par k)) with
        | false => rfl
        | true => exact absurd ⟨k0, hb⟩ hc
      · exact h1 k k0 kn e

theorem dnF_spec (n : Nat) : ∀ (m i : Nat) (f : Qf), n - i ≤ m → i < n → (∀ k, 0 < k → k < n → par k ≠ i → lb (f k) (f (par k)) = false) → (∀ k, 0 < k → k < n → par k = i → 0 < i → lb (f k) (f (par i)) = false) →
    HO lb (dnF lb f i n) n ∧ (qrow (dnF lb f i n) n).Perm (qrow f n) ∧ ∀ k, n ≤ k → dnF lb f i n k = f k := by
  intro m
  induction m with
  | zero => intro i f hm hi; omega
  | succ m ih =>
    intro i f hm hi h1 h2
    have hch : 2 * i + 1 < n → ∀ k, 0 < k → k < n → par k = i → lb (f k) (f (lsk lb f i n)) = false := fun hn k k0 kn kp => by
      have hk := (par_kids k0).1 kp
      unfold lsk
      by_cases hc : 2 * i + 2 < n ∧ lb (f (2 * i + 2)) (f (2 * i + 1)) = true
      · rw [if_pos hc]
        rcases hk with rfl | rfl
        · exact O.asy _ _ hc.2
        · exact LO.irr O _
      · rw [if_neg hc]
        rcases hk with rfl | rfl
        · exact LO.irr O _
        · cases hb : lb (f (2 * i + 2)) (f (2 * i + 1)) with
          | false => rfl
          | true => exact absurd ⟨kn, hb⟩ hc
    rw [dnF]
    by_cases hc : 2 * i + 1 < n ∧ lb (f (lsk lb f i n)) (f i) = true
    · rw [dif_pos hc]
      obtain ⟨hn, hlt⟩ := hc
      have hch := hch hn
      have hl1 := lsk_or lb f i n
      have hl2 := lsk_lt (lb := lb) (f := f) hn
      generalize lsk lb f i n = j at *
      have hjp : par j = i := (par_kids (by omega)).2 hl1
      have hij := swp_l f i j
      have hji := swp_r f i j
      obtain ⟨a1, a2, a3⟩ := ih j (swp f i j) (by omega) hl2 (fun k k0 kn kp => by
        have hk := par_lt k0
        by_cases e1 : par k = i
        · rw [e1, hij]
          by_cases e2 : k = j
          · subst e2
            rw [hji]
            exact O.asy _ _ hlt
          · rw [swp_n (by omega) e2]
            exact hch k k0 kn e1
        · by_cases e2 : k = i
          · subst e2
            have hpk := par_lt k0
            rw [hij, swp_n (by omega) (by omega)]
            exact h2 j (by omega) hl2 hjp k0
          · have e3 : k ≠ j := fun e => e1 (e ▸ hjp)
            rw [swp_n e2 e3, swp_n e1 kp]
            exact h1 k k0 kn e1) (fun k k0 kn kp j0 => by
        have hk := par_lt k0
        rw [hjp, hij, swp_n (by omega) (by omega)]
        have := h1 k k0 kn (by omega)
        rwa [kp] at this)
      exact ⟨a1, a2.trans (swp_perm f hi hl2), fun k hk => by rw [a3 k hk]; exact swp_n (by omega) (by omega)⟩
    · rw [dif_neg hc]
      refine ⟨fun k k0 kn => ?_, List.Perm.refl _, fun _ _ => rfl⟩
      by_cases e : par k = i
      · have hk := (par_kids k0).1 e
        have hn : 2 * i + 1 < n := by omega
        have g1 := hch hn k k0 kn e
        have g2 : lb (f (lsk lb f i n)) (f i) = false := by
          cases hb : lb (f (lsk lb f i n)) (f i) with
          | false => rfl
          | true => exact absurd ⟨hn, hb⟩ hc
        rw [e]
        exact O.tr _ _ _ g2 g1
      · exact h1 k k0 kn e

/-- the first one is the least -/
theorem HO.least {f : Qf} {n : Nat} (h : HO lb f n) : ∀ k, k < n → lb (f k) (f 0) = false := by
  intro k
  induction k using Nat.strongRecOn with
  | ind k ih =>
    intro hk
    by_cases h0 : k = 0
    · subst h0; exact LO.irr O _
    · have hp := par_lt (show 0 < k by omega)
      exact O.tr _ _ _ (ih _ hp (by omega)) (h k (by omega) hk)

/-- one more -/
def addF (f : Qf) (n x : Nat) : Qf := fun k => if k = n then x else f k
omit O in
theorem addF_at (f : Qf) (n x : Nat) : addF f n x n = x := by simp [addF]
omit O in
theorem addF_ne {f : Qf} {n x k : Nat} (h : k ≠ n) : addF f n x k = f k := by simp [addF, h]
omit O in
theorem addF_row (f : Qf) (n x : Nat) : qrow (addF f n x) (n + 1) = qrow f n ++ [x] := by
  rw [qrow_succ, addF_at, qrow_congr (fun k hk => addF_ne (f := f) (x := x) (Nat.ne_of_lt hk))]
theorem push_spec {f : Qf} {n x : Nat} (h : HO lb f n) : HO lb (upF lb (addF f n x) n) (n + 1) ∧ (qrow (upF lb (addF f n x) n) (n + 1)).Perm (x :: qrow f n) := by
  obtain ⟨a1, a2⟩ := upF_spec O (n + 1) n (addF f n x) (by omega) (fun k k0 kn kne => by
    have := par_lt k0
    rw [addF_ne kne, addF_ne (by omega)]
    exact h k k0 (by omega)) (fun k k0 kn kp n0 => by have := par_lt k0; omega)
  refine ⟨a1, a2.trans ?_⟩
  rw [addF_row]
  exact List.perm_append_singleton x (qrow f n)
/-- the least is taken -/
theorem pop_spec {f : Qf} {n : Nat} (h : HO lb f (n + 1)) : HO lb (dnF lb (swp f 0 n) 0 n) n ∧ (f 0 :: qrow (dnF lb (swp f 0 n) 0 n) n).Perm (qrow f (n + 1)) ∧ dnF lb (swp f 0 n) 0 n n = f 0 := by
  have hp := swp_perm f (show 0 < n + 1 by omega) (show n < n + 1 by omega)
  rw [qrow_succ, swp_r] at hp
  have key : HO lb (dnF lb (swp f 0 n) 0 n) n ∧ (qrow (dnF lb (swp f 0 n) 0 n) n).Perm (qrow (swp f 0 n) n) ∧ ∀ k, n ≤ k → dnF lb (swp f 0 n) 0 n k = swp f 0 n k := by
    by_cases h0 : n = 0
    · subst h0
      rw [dnF, dif_neg (by omega)]
      exact ⟨fun j j0 jn => by omega, List.Perm.refl _, fun _ _ => rfl⟩
    · exact dnF_spec O n n 0 (swp f 0 n) (by omega) (by omega) (fun k k0 kn kp => by
        have := par_lt k0
        rw [swp_n (by omega) (by omega), swp_n kp (by omega)]
        exact h k k0 (by omega)) (fun k k0 kn kp z => by omega)
  obtain ⟨a1, a2, a3⟩ := key
  refine ⟨a1, ((a2.cons (f 0)).trans (List.perm_append_singleton (f 0) _).symm).trans hp, ?_⟩
  rw [a3 n (Nat.le_refl _), swp_r]
end
end Go.Proofs.YtggfdlanobndjaaGreat
