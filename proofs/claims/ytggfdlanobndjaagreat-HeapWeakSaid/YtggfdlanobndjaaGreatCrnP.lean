/- Corners, and what is over a point, in words of boxes. No function of the program is walked here. -/
import Derived.Test.YtggfdlanobndjaaGreatQ5
namespace Go.Proofs.YtggfdlanobndjaaGreat
open Go Go.RowKit
set_option linter.unusedVariables false
set_option linter.unusedSimpArgs false

/-- the least and the greatest number -/
abbrev leastI : Int := -9223372036854775808
abbrev mostI : Int := 9223372036854775807
/-- points as they may lie -/
def wfL (l : List Pt) : Prop := ∀ p ∈ l, (Lit.int .i64 p.1).wf = true ∧ (Lit.int .i64 p.2.1).wf = true ∧ (Lit.int .u32 p.2.2).wf = true
theorem wf64 {x : Int} (h : (Lit.int .i64 x).wf = true) : leastI ≤ x ∧ x ≤ mostI := by
  simp [Lit.wf, IntKind.min, IntKind.max, IntKind.signed, IntKind.bits] at h
  exact h

/-- the names of the points that f takes, rising -/
def hasN (l : List Pt) (f : Pt → Bool) : List Int := srtI (ids (l.filter f))
theorem hasN_box (l : List Pt) (x1 x2 y1 y2 : Int) : hasB l x1 x2 y1 y2 = hasN l (inB x1 x2 y1 y2) := rfl
theorem hasN_congr {l : List Pt} {f g : Pt → Bool} (h : ∀ p ∈ l, f p = g p) : hasN l f = hasN l g := by
  unfold hasN; rw [List.filter_congr h]
theorem hasN_len (l : List Pt) (f : Pt → Bool) : (hasN l f).length = (l.filter f).length := by unfold hasN; rw [srtI_len]; simp [ids]
theorem srtI_nil : srtI [] = [] := List.eq_nil_of_length_eq_zero (srtI_len [])
theorem hasN_none {l : List Pt} {f : Pt → Bool} (h : ∀ p ∈ l, f p = false) : hasN l f = [] := by
  unfold hasN
  rw [List.filter_eq_nil_iff.2 (fun p hp => by rw [h p hp]; exact Bool.false_ne_true)]
  exact srtI_nil

/-- a list cut in two by two tests -/
theorem filt_two {α : Type} {f g h : α → Bool} : ∀ {l : List α}, (∀ q ∈ l, h q = (f q || g q)) → (∀ q ∈ l, f q = true → g q = false) → (l.filter f ++ l.filter g).Perm (l.filter h)
  | [], _, _ => .refl _
  | q :: l, hh, hd => by
    have ih := filt_two (l := l) (fun x hx => hh x (.tail _ hx)) (fun x hx => hd x (.tail _ hx))
    have h1 := hh q (.head _)
    have h2 := hd q (.head _)
    rcases Bool.eq_false_or_eq_true (f q) with e | e <;> rcases Bool.eq_false_or_eq_true (g q) with e' | e' <;> simp only [e, e', Bool.or_true, Bool.true_or, Bool.or_false, Bool.false_or, Bool.or_self] at h1 h2 <;> simp only [List.filter_cons, e, e', h1, if_true, Bool.false_eq_true, if_false]
    · simp at h2
    · exact ih.cons q
    · exact List.perm_middle.trans (ih.cons q)
    · exact ih

theorem hasN_two {l : List Pt} {f g h : Pt → Bool} (hh : ∀ q ∈ l, h q = (f q || g q)) (hd : ∀ q ∈ l, f q = true → g q = false) : srtI (hasN l f ++ hasN l g) = hasN l h := by
  refine srtI_of (srtI_sorted _) ?_
  have e : (ids (l.filter f) ++ ids (l.filter g)).Perm (ids (l.filter h)) := by
    unfold ids
    rw [← List.map_append]
    exact (filt_two hh hd).map _
  exact (List.mergeSort_perm _ _).trans (e.symm.trans ((List.mergeSort_perm _ _).append (List.mergeSort_perm _ _)).symm)

/-- numbers from one on, up or down -/
def onN (n x : Int) (up : Bool) : Bool := if up then decide (x ≤ n) else decide (n ≤ x)
/-- what a corner holds -/
def crnF (x y : Int) (wx wy : Bool) (p : Pt) : Bool := onN p.1 x wx && onN p.2.1 y wy
/-- the ends of the box of a corner -/
def bx1 (x : Int) (up : Bool) : Int := if up then x else leastI
def bx2 (x : Int) (up : Bool) : Int := if up then mostI else x
theorem in_crn {p : Pt} (h1 : (Lit.int .i64 p.1).wf = true) (h2 : (Lit.int .i64 p.2.1).wf = true) (x y : Int) (wx wy : Bool) : inB (bx1 x wx) (bx2 x wx) (bx1 y wy) (bx2 y wy) p = crnF x y wx wy p := by
  have a := wf64 h1
  have b := wf64 h2
  unfold leastI mostI at a b
  cases wx <;> cases wy <;> simp only [inB, crnF, onN, bx1, bx2, leastI, mostI, if_true, if_false, Bool.false_eq_true, ← Bool.decide_and] <;> refine decide_eq_decide.2 ?_ <;> omega
theorem hasB_crn {l : List Pt} (hl : wfL l) (x y : Int) (wx wy : Bool) : hasB l (bx1 x wx) (bx2 x wx) (bx1 y wy) (bx2 y wy) = hasN l (crnF x y wx wy) :=
  hasN_congr fun p hp => in_crn (hl p hp).1 (hl p hp).2.1 x y wx wy

/-- a box -/
abbrev Bx4 := Int × Int × Int × Int
def inX (b : Bx4) (p : Pt) : Bool := inB b.1 b.2.1 b.2.2.1 b.2.2.2 p
/-- the box of no points -/
def noB : Bx4 := (1, 0, 0, 0)
/-- the boxes of what is over a point: above it, and beside it -/
def aboveB (p : Pt) : Bx4 := if p.2.1 = mostI then noB else (p.1, mostI, p.2.1 + 1, mostI)
def rightB (p : Pt) : Bx4 := if p.1 = mostI then noB else (p.1 + 1, mostI, p.2.1, p.2.1)
/-- and of what it is over -/
def belowB (p : Pt) : Bx4 := if p.2.1 = leastI then noB else (leastI, p.1, leastI, p.2.1 - 1)
def leftB (p : Pt) : Bx4 := if p.1 = leastI then noB else (leastI, p.1 - 1, p.2.1, p.2.1)
def hasX (l : List Pt) (b : Bx4) : List Int := hasB l b.1 b.2.1 b.2.2.1 b.2.2.2
theorem hasX_eq (l : List Pt) (b : Bx4) : hasX l b = hasN l (inX b) := rfl

theorem inX_no (q : Pt) : inX noB q = false := decide_eq_false (show ¬((1 : Int) ≤ q.1 ∧ q.1 ≤ 0 ∧ 0 ≤ q.2.1 ∧ q.2.1 ≤ 0) by omega)
theorem inX_iff (a b c d : Int) (q : Pt) : inX (a, b, c, d) q = true ↔ a ≤ q.1 ∧ q.1 ≤ b ∧ c ≤ q.2.1 ∧ q.2.1 ≤ d := by simp [inX, inB]
theorem over_two {l : List Pt} (hl : wfL l) (p : Pt) (h1 : (Lit.int .i64 p.1).wf = true) (h2 : (Lit.int .i64 p.2.1).wf = true) : srtI (hasX l (aboveB p) ++ hasX l (rightB p)) = hasN l (fun q => ovr q p) := by
  have a := wf64 h1
  have b := wf64 h2
  simp only [leastI, mostI] at a b
  refine hasN_two (f := inX (aboveB p)) (g := inX (rightB p)) (fun q hq => ?_) (fun q hq => ?_)
  · have c := wf64 (hl q hq).1
    have d := wf64 (hl q hq).2.1
    simp only [leastI, mostI] at c d
    unfold aboveB rightB
    rw [Bool.eq_iff_iff, Bool.or_eq_true, ovr_iff]
    split <;> split <;> simp only [inX_no, inX_iff, leastI, mostI, Bool.false_eq_true, false_or, or_false, iff_false] at * <;> omega
  · rw [← Bool.not_eq_true]
    unfold aboveB rightB
    split <;> split <;> simp only [inX_no, Bool.false_eq_true, false_imp_iff, implies_true, not_false_eq_true, inX_iff, leastI, mostI] at * <;> omega
theorem under_two {l : List Pt} (hl : wfL l) (p : Pt) (h1 : (Lit.int .i64 p.1).wf = true) (h2 : (Lit.int .i64 p.2.1).wf = true) : srtI (hasX l (belowB p) ++ hasX l (leftB p)) = hasN l (ovr p) := by
  have a := wf64 h1
  have b := wf64 h2
  simp only [leastI, mostI] at a b
  refine hasN_two (f := inX (belowB p)) (g := inX (leftB p)) (fun q hq => ?_) (fun q hq => ?_)
  · have c := wf64 (hl q hq).1
    have d := wf64 (hl q hq).2.1
    simp only [leastI, mostI] at c d
    unfold belowB leftB
    rw [Bool.eq_iff_iff, Bool.or_eq_true, ovr_iff]
    split <;> split <;> simp only [inX_no, inX_iff, leastI, mostI, Bool.false_eq_true, false_or, or_false, iff_false] at * <;> omega
  · rw [← Bool.not_eq_true]
    unfold belowB leftB
    split <;> split <;> simp only [inX_no, Bool.false_eq_true, false_imp_iff, implies_true, not_false_eq_true, inX_iff, leastI, mostI] at * <;> omega

/-- a list in order, some taken out -/
theorem srtI_filter (S : List Int) (P : Int → Bool) : srtI (S.filter P) = (srtI S).filter P :=
  srtI_of ((srtI_sorted S).filter P) ((List.mergeSort_perm S _).filter P)
theorem hasN_within {l : List Pt} {f g : Pt → Bool} (hu : (ids l).Nodup) (hfg : ∀ p ∈ l, f p = true → g p = true) : hasN l f = (hasN l g).filter fun n => l.any fun p => p.2.2 == n && f p := by
  unfold hasN
  rw [← srtI_filter]
  congr 1
  unfold ids
  rw [List.filter_map, List.filter_filter]
  congr 1
  refine List.filter_congr fun p hp => ?_
  have e : (l.any fun q => q.2.2 == p.2.2 && f q) = f p := by
    rw [Bool.eq_iff_iff, List.any_eq_true]
    constructor
    · rintro ⟨q, hq, h⟩
      simp only [Bool.and_eq_true, beq_iff_eq] at h
      obtain ⟨i, hi, rfl⟩ := List.getElem_of_mem hp
      obtain ⟨j, hj, rfl⟩ := List.getElem_of_mem hq
      have : j = i := by
        have hp := List.pairwise_iff_getElem.1 (show (l.map fun p => p.2.2).Pairwise (· ≠ ·) from hu)
        have n1 := hp i j (by simpa using hi) (by simpa using hj)
        have n2 := hp j i (by simpa using hj) (by simpa using hi)
        simp only [List.getElem_map] at n1 n2
        by_cases e : j < i
        · exact absurd h.1 (n2 e)
        · by_cases e : i < j
          · exact absurd h.1.symm (n1 e)
          · omega
      subst this
      exact h.2
    · intro h
      exact ⟨p, hp, by simp [h]⟩
  simp only [Function.comp, e]
  have := hfg p hp
  cases e1 : f p
  · rfl
  · rw [this e1]; rfl
theorem hasN_sub {l : List Pt} {f g : Pt → Bool} (hu : (ids l).Nodup) (hfg : ∀ p ∈ l, f p = true → g p = true) : (hasN l f).Sublist (hasN l g) := by
  rw [hasN_within hu hfg]
  exact List.filter_sublist

/-- a step of a walk that looks for a list in another one -/
theorem greedy_step {few all : List Int} {k i : Nat} (h : (few.drop k).Sublist (all.drop i)) (hi : i < all.length) :
    (∀ hk : k < few.length, few[k] = all[i] → (few.drop (k + 1)).Sublist (all.drop (i + 1))) ∧ ((k = few.length ∨ ∃ hk : k < few.length, few[k] ≠ all[i]) → (few.drop k).Sublist (all.drop (i + 1))) := by
  rw [List.drop_eq_getElem_cons hi] at h
  constructor
  · intro hk e
    rw [List.drop_eq_getElem_cons hk, e] at h
    exact List.cons_sublist_cons.1 h
  · rintro (rfl | ⟨hk, e⟩)
    · rw [List.drop_length]; exact List.nil_sublist _
    · rw [List.drop_eq_getElem_cons hk] at h ⊢
      generalize few[k] = x at *
      generalize all[i] = y at *
      cases h with
      | cons _ h => exact h
      | cons_cons _ h => exact absurd rfl e
theorem greedy_end {few all : List Int} {k : Nat} (h : (few.drop k).Sublist (all.drop all.length)) (hk : k ≤ few.length) : k = few.length := by
  rw [List.drop_length] at h
  have := h.length_le
  simp at this
  omega
end Go.Proofs.YtggfdlanobndjaaGreat
