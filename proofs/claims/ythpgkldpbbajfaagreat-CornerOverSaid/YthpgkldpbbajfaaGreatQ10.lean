/- Several texts in one: CrnP, WkP, CorA, CorB, CorC, CorD, CorE, Cor. -/
import Derived.Test.YthpgkldpbbajfaaGreatQ5
import Derived.Test.YthpgkldpbbajfaaGreatQ3
import Derived.Laws.Rows
import Derived.Test.YthpgkldpbbajfaaGreatQ7
import Derived.Test.YthpgkldpbbajfaaGreatQ4
import Derived.Laws.Tables
import Derived.Laws.CopyOwn
import Derived.Great.BuildSlice

/- Corners, and what is over a point, in words of boxes. No function of the program is walked here. -/
namespace Go.Proofs.YthpgkldpbbajfaaGreat
open Go Go.RowKit
set_option linter.unusedVariables false
set_option linter.unusedSimpArgs false

/-- the least and the greatest number -/
abbrev leastI : Int := -9223372036854775808
abbrev mostI : Int := 9223372036854775807
/-- points as they may lie -/
def wfL (l : List Pt) : Prop := ∀ p ∈ l, (Lit.int .i64 p.1).wf = true ∧ (Lit.int .i64 p.2.1).wf = true ∧ (Lit.int .u32 p.2.2).wf = true
theorem wf64 {x : Int} (h : (Lit.int .i64 x).wf = true) : leastI ≤ x ∧ x ≤ mostI := by
  simp [Lit.wf, IntKind.min, IntKind.max, IntKind.signed, IntKind.bits] at h
  exact h

/-- the names of the points that f takes, rising -/
def hasN (l : List Pt) (f : Pt → Bool) : List Int := srtI (ids (l.filter f))
theorem hasN_box (l : List Pt) (x1 x2 y1 y2 : Int) : hasB l x1 x2 y1 y2 = hasN l (inB x1 x2 y1 y2) := rfl
theorem hasN_congr {l : List Pt} {f g : Pt → Bool} (h : ∀ p ∈ l, f p = g p) : hasN l f = hasN l g := by
  unfold hasN; rw [List.filter_congr h]
theorem hasN_len (l : List Pt) (f : Pt → Bool) : (hasN l f).length = (l.filter f).length := by unfold hasN; rw [srtI_len]; simp [ids]
theorem srtI_nil : srtI [] = [] := List.eq_nil_of_length_eq_zero (srtI_len [])
theorem hasN_none {l : List Pt} {f : Pt → Bool} (h : ∀ p ∈ l, f p = false) : hasN l f = [] := by
  unfold hasN
  rw [List.filter_eq_nil_iff.2 (fun p hp => by rw [h p hp]; exact Bool.false_ne_true)]
  exact srtI_nil

/-- a list cut in two by two tests -/
theorem filt_two {α : Type} {f g h : α → Bool} : ∀ {l : List α}, (∀ q ∈ l, h q = (f q || g q)) → (∀ q ∈ l, f q = true → g q = false) → (l.filter f ++ l.filter g).Perm (l.filter h)
  | [], _, _ => .refl _
  | q :: l, hh, hd => by
    have ih := filt_two (l := l) (fun x hx => hh x (.tail _ hx)) (fun x hx => hd x (.tail _ hx))
    have h1 := hh q (.head _)
    have h2 := hd q (.head _)
    rcases Bool.eq_false_or_eq_true (f q) with e | e <;> rcases Bool.eq_false_or_eq_true (g q) with e' | e' <;> simp only [e, e', Bool.or_true, Bool.true_or, Bool.or_false, Bool.false_or, Bool.or_self] at h1 h2 <;> simp only [List.filter_cons, e, e', h1, if_true, Bool.false_eq_true, if_false]
    · simp at h2
    · exact ih.cons q
    · exact List.perm_middle.trans (ih.cons q)
    · exact ih

theorem hasN_two {l : List Pt} {f g h : Pt → Bool} (hh : ∀ q ∈ l, h q = (f q || g q)) (hd : ∀ q ∈ l, f q = true → g q = false) : srtI (hasN l f ++ hasN l g) = hasN l h := by
  refine srtI_of (srtI_sorted _) ?_
  have e : (ids (l.filter f) ++ ids (l.filter g)).Perm (ids (l.filter h)) := by
    unfold ids
    rw [← List.map_append]
    exact (filt_two hh hd).map _
  exact (List.mergeSort_perm _ _).trans (e.symm.trans ((List.mergeSort_perm _ _).append (List.mergeSort_perm _ _)).symm)

/-- numbers from one on, up or down -/
def onN (n x : Int) (up : Bool) : Bool := if up then decide (x ≤ n) else decide (n ≤ x)
/-- what a corner holds -/
def crnF (x y : Int) (wx wy : Bool) (p : Pt) : Bool := onN p.1 x wx && onN p.2.1 y wy
/-- the ends of the box of a corner -/
def bx1 (x : Int) (up : Bool) : Int := if up then x else leastI
def bx2 (x : Int) (up : Bool) : Int := if up then mostI else x
theorem in_crn {p : Pt} (h1 : (Lit.int .i64 p.1).wf = true) (h2 : (Lit.int .i64 p.2.1).wf = true) (x y : Int) (wx wy : Bool) : inB (bx1 x wx) (bx2 x wx) (bx1 y wy) (bx2 y wy) p = crnF x y wx wy p := by
  have a := wf64 h1
  have b := wf64 h2
  unfold leastI mostI at a b
  cases wx <;> cases wy <;> simp only [inB, crnF, onN, bx1, bx2, leastI, mostI, if_true, if_false, Bool.false_eq_true, ← Bool.decide_and] <;> refine decide_eq_decide.2 ?_ <;> omega
theorem hasB_crn {l : List Pt} (hl : wfL l) (x y : Int) (wx wy : Bool) : hasB l (bx1 x wx) (bx2 x wx) (bx1 y wy) (bx2 y wy) = hasN l (crnF x y wx wy) :=
  hasN_congr fun p hp => in_crn (hl p hp).1 (hl p hp).2.1 x y wx wy

/-- a box -/
abbrev Bx4 := Int × Int × Int × Int
def inX (b : Bx4) (p : Pt) : Bool := inB b.1 b.2.1 b.2.2.1 b.2.2.2 p
/-- the box of no points -/
def noB : Bx4 := (1, 0, 0, 0)
/-- the boxes of what is over a point: above it, and beside it -/
def aboveB (p : Pt) : Bx4 := if p.2.1 = mostI then noB else (p.1, mostI, p.2.1 + 1, mostI)
def rightB (p : Pt) : Bx4 := if p.1 = mostI then noB else (p.1 + 1, mostI, p.2.1, p.2.1)
/-- and of what it is over -/
def belowB (p : Pt) : Bx4 := if p.2.1 = leastI then noB else (leastI, p.1, leastI, p.2.1 - 1)
def leftB (p : Pt) : Bx4 := if p.1 = leastI then noB else (leastI, p.1 - 1, p.2.1, p.2.1)
def hasX (l : List Pt) (b : Bx4) : List Int := hasB l b.1 b.2.1 b.2.2.1 b.2.2.2
theorem hasX_eq (l : List Pt) (b : Bx4) : hasX l b = hasN l (inX b) := rfl

theorem inX_no (q : Pt) : inX noB q = false := decide_eq_false (show ¬((1 : Int) ≤ q.1 ∧ q.1 ≤ 0 ∧ 0 ≤ q.2.1 ∧ q.2.1 ≤ 0) by omega)
theorem inX_iff (a b c d : Int) (q : Pt) : inX (a, b, c, d) q = true ↔ a ≤ q.1 ∧ q.1 ≤ b ∧ c ≤ q.2.1 ∧ q.2.1 ≤ d := by simp [inX, inB]
theorem over_two {l : List Pt} (hl : wfL l) (p : Pt) (h1 : (Lit.int .i64 p.1).wf = true) (h2 : (Lit.int .i64 p.2.1).wf = true) : srtI (hasX l (aboveB p) ++ hasX l (rightB p)) = hasN l (fun q => ovr q p) := by
  have a := wf64 h1
  have b := wf64 h2
  simp only [leastI, mostI] at a b
  refine hasN_two (f := inX (aboveB p)) (g := inX (rightB p)) (fun q hq => ?_) (fun q hq => ?_)
  · have c := wf64 (hl q hq).1
    have d := wf64 (hl q hq).2.1
    simp only [leastI, mostI] at c d
    unfold aboveB rightB
    rw [Bool.eq_iff_iff, Bool.or_eq_true, ovr_iff]
    split <;> split <;> simp only [inX_no, inX_iff, leastI, mostI, Bool.false_eq_true, false_or, or_false, iff_false] at * <;> omega
  · rw [← Bool.not_eq_true]
    unfold aboveB rightB
    split <;> split <;> simp only [inX_no, Bool.false_eq_true, false_imp_iff, implies_true, not_false_eq_true, inX_iff, leastI, mostI] at * <;> omega
theorem under_two {l : List Pt} (hl : wfL l) (p : Pt) (h1 : (Lit.int .i64 p.1).wf = true) (h2 : (Lit.int .i64 p.2.1).wf = true) : srtI (hasX l (belowB p) ++ hasX l (leftB p)) = hasN l (ovr p) := by
  have a := wf64 h1
  have b := wf64 h2
  simp only [leastI, mostI] at a b
  refine hasN_two (f := inX (belowB p)) (g := inX (leftB p)) (fun q hq => ?_) (fun q hq => ?_)
  · have c := wf64 (hl q hq).1
    have d := wf64 (hl q hq).2.1
    simp only [leastI, mostI] at c d
    unfold belowB leftB
    rw [Bool.eq_iff_iff, Bool.or_eq_true, ovr_iff]
    split <;> split <;> simp only [inX_no, inX_iff, leastI, mostI, Bool.false_eq_true, false_or, or_false, iff_false] at * <;> omega
  · rw [← Bool.not_eq_true]
    unfold belowB leftB
    split <;> split <;> simp only [inX_no, Bool.false_eq_true, false_imp_iff, implies_true, not_false_eq_true, inX_iff, leastI, mostI] at * <;> omega

/-- a list in order, some taken out -/
theorem srtI_filter (S : List Int) (P : Int → Bool) : srtI (S.filter P) = (srtI S).filter P :=
  srtI_of ((srtI_sorted S).filter P) ((List.mergeSort_perm S _).filter P)
theorem hasN_within {l : List Pt} {f g : Pt → Bool} (hu : (ids l).Nodup) (hfg : ∀ p ∈ l, f p = true → g p = true) : hasN l f = (hasN l g).filter fun n => l.any fun p => p.2.2 == n && f p := by
  unfold hasN
  rw [← srtI_filter]
  congr 1
  unfold ids
  rw [List.filter_map, List.filter_filter]
  congr 1
  refine List.filter_congr fun p hp => ?_
  have e : (l.any fun q => q.2.2 == p.2.2 && f q) = f p := by
    rw [Bool.eq_iff_iff, List.any_eq_true]
    constructor
    · rintro ⟨q, hq, h⟩
      simp only [Bool.and_eq_true, beq_iff_eq] at h
      obtain ⟨i, hi, rfl⟩ := List.getElem_of_mem hp
      obtain ⟨j, hj, rfl⟩ := List.getElem_of_mem hq
      have : j = i := by
        have hp := List.pairwise_iff_getElem.1 (show (l.map fun p => p.2.2).Pairwise (· ≠ ·) from hu)
        have n1 := hp i j (by simpa using hi) (by simpa using hj)
        have n2 := hp j i (by simpa using hj) (by simpa using hi)
        simp only [List.getElem_map] at n1 n2
        by_cases e : j < i
        · exact absurd h.1 (n2 e)
        · by_cases e : i < j
          · exact absurd h.1.symm (n1 e)
          · omega
      subst this
      exact h.2
    · intro h
      exact ⟨p, hp, by simp [h]⟩
  simp only [Function.comp, e]
  have := hfg p hp
  cases e1 : f p
  · rfl
  · rw [this e1]; rfl
theorem hasN_sub {l : List Pt} {f g : Pt → Bool} (hu : (ids l).Nodup) (hfg : ∀ p ∈ l, f p = true → g p = true) : (hasN l f).Sublist (hasN l g) := by
  rw [hasN_within hu hfg]
  exact List.filter_sublist

/-- a step of a walk that looks for a list in another one -/
theorem greedy_step {few all : List Int} {k i : Nat} (h : (few.drop k).Sublist (all.drop i)) (hi : i < all.length) :
    (∀ hk : k < few.length, few[k] = all[i] → (few.drop (k + 1)).Sublist (all.drop (i + 1))) ∧ ((k = few.length ∨ ∃ hk : k < few.length, few[k] ≠ all[i]) → (few.drop k).Sublist (all.drop (i + 1))) := by
  rw [List.drop_eq_getElem_cons hi] at h
  constructor
  · intro hk e
    rw [List.drop_eq_getElem_cons hk, e] at h
    exact List.cons_sublist_cons.1 h
  · rintro (rfl | ⟨hk, e⟩)
    · rw [List.drop_length]; exact List.nil_sublist _
    · rw [List.drop_eq_getElem_cons hk] at h ⊢
      generalize few[k] = x at *
      generalize all[i] = y at *
      cases h with
      | cons _ h => exact h
      | cons_cons _ h => exact absurd rfl e
theorem greedy_end {few all : List Int} {k : Nat} (h : (few.drop k).Sublist (all.drop all.length)) (hk : k ≤ few.length) : k = few.length := by
  rw [List.drop_length] at h
  have := h.length_le
  simp at this
  omega
end Go.Proofs.YthpgkldpbbajfaaGreat

/- Points dropped from either end of a list; four corners that part all points. No function of the program is walked here. -/
namespace Go.Proofs.YthpgkldpbbajfaaGreat
open Go Go.RowKit
set_option linter.unusedVariables false
set_option linter.unusedSimpArgs false

section
variable {l : List Pt} {D : List Bool}
theorem nodup_ids (h : (ids l).Nodup) : l.Nodup :=
  List.Pairwise.of_map (fun p : Pt => p.2.2) (fun a b hab e => hab (by rw [e])) h
/-- is a point to be dropped -/
def wkG (l : List Pt) (D : List Bool) (q : Pt) : Bool := (List.range l.length).any fun j => decide (l[j]? = some q) && (D[j]? == some true)
/-- what is left when those of S that are to be dropped have been -/
def wkA (l : List Pt) (D : List Bool) (S : List Pt) : List Pt := l.filter fun q => !(wkG l D q && decide (q ∈ S))

theorem wkG_at (hn : l.Nodup) {i : Nat} (hi : i < l.length) : wkG l D l[i] = (D[i]? == some true) := by
  unfold wkG
  rw [Bool.eq_iff_iff, List.any_eq_true]
  constructor
  · rintro ⟨j, hj, h⟩
    simp only [Bool.and_eq_true, decide_eq_true_eq] at h
    obtain ⟨h1, h2⟩ := h
    rw [List.mem_range] at hj
    rw [List.getElem?_eq_getElem hj] at h1
    have h1 := Option.some.inj h1
    have : j = i := by
      by_cases e : j < i
      · exact absurd h1 (List.pairwise_iff_getElem.1 hn j i hj hi e)
      · by_cases e : i < j
        · exact absurd h1.symm (List.pairwise_iff_getElem.1 hn i j hi hj e)
        · omega
    rw [← this]; exact h2
  · intro h
    exact ⟨i, List.mem_range.2 hi, by simp [hi, h]⟩
theorem wkA_yes {x : Pt} {S S' : List Pt} (hg : wkG l D x = true) (hS : ∀ q, q ∈ S' ↔ q ∈ S ∨ q = x) : (wkA l D S).filter (fun q => decide (q ≠ x)) = wkA l D S' := by
  unfold wkA
  rw [List.filter_filter]
  refine List.filter_congr fun q hq => ?_
  by_cases e : q = x
  · subst e; simp [hg, (hS q).2 (.inr rfl)]
  · have : (q ∈ S') = (q ∈ S) := propext ⟨fun h => ((hS q).1 h).resolve_right e, fun h => (hS q).2 (.inl h)⟩
    simp [e, this]
theorem wkA_no {x : Pt} {S S' : List Pt} (hg : wkG l D x = false) (hS : ∀ q, q ∈ S' ↔ q ∈ S ∨ q = x) : wkA l D S' = wkA l D S := by
  unfold wkA
  refine List.filter_congr fun q hq => ?_
  by_cases e : q = x
  · subst e; simp [hg]
  · have : (q ∈ S') = (q ∈ S) := propext ⟨fun h => ((hS q).1 h).resolve_right e, fun h => (hS q).2 (.inl h)⟩
    simp [this]
theorem wkA_mem {x : Pt} {S : List Pt} (hx : x ∈ l) (hS : x ∉ S) : x ∈ wkA l D S := by
  unfold wkA; simp [hx, hS]
theorem wkA_nil : wkA l D [] = l := by
  unfold wkA; simp
theorem wkA_all {S : List Pt} (h : ∀ q ∈ l, q ∈ S) : wkA l D S = l.filter fun q => !wkG l D q := by
  unfold wkA
  exact List.filter_congr fun q hq => by simp [h q hq]
theorem mem_take_more {i : Nat} (hi : i < l.length) (q : Pt) : q ∈ l.take (i + 1) ↔ q ∈ l.take i ∨ q = l[i] := by
  rw [List.take_succ_eq_append_getElem hi, List.mem_append, List.mem_singleton]
theorem mem_drop_more {k : Nat} (hk : k < l.length) (q : Pt) : q ∈ l.drop k ↔ q ∈ l.drop (k + 1) ∨ q = l[k] := by
  rw [List.drop_eq_getElem_cons hk, List.mem_cons, or_comm]
theorem not_take (hn : l.Nodup) {i : Nat} (hi : i < l.length) : l[i] ∉ l.take i := by
  intro h
  obtain ⟨j, hj, e⟩ := List.getElem_of_mem h
  simp at hj
  rw [List.getElem_take] at e
  exact List.pairwise_iff_getElem.1 hn j i (by omega) hi (by omega) e
theorem not_drop (hn : l.Nodup) {k : Nat} (hk : k < l.length) : l[k] ∉ l.drop (k + 1) := by
  intro h
  obtain ⟨j, hj, e⟩ := List.getElem_of_mem h
  simp at hj
  rw [List.getElem_drop] at e
  exact List.pairwise_iff_getElem.1 hn k (k + 1 + j) hk (by omega) (by omega) e.symm
/-- what is left of the first ones -/
theorem left_more (hn : l.Nodup) {i : Nat} (hi : i < l.length) : (l.take (i + 1)).filter (fun q => !wkG l D q) = (l.take i).filter (fun q => !wkG l D q) ++ if D[i]? = some true then [] else [l[i]] := by
  rw [List.take_succ_eq_append_getElem hi, List.filter_append]
  congr 1
  have := wkG_at (D := D) hn hi
  by_cases e : D[i]? = some true
  · simp [this, e]
  · simp [this, e]
end

/-- the four corners at a place that part all points -/
def fourL (l : List Pt) (x y : Int) (w : Nat) : List Int := hasN l (crnF (x + (w % 2 : Nat)) (y + (w / 2 : Nat)) (w % 2 == 1) (w / 2 == 1))
theorem four_perm (l : List Pt) (x y : Int) : (fourL l x y 0 ++ fourL l x y 1 ++ fourL l x y 2 ++ fourL l x y 3).Perm (ids l) := by
  have h1 : (l.filter (crnF x y false false) ++ l.filter (crnF (x + 1) y true false)).Perm (l.filter fun p => decide (p.2.1 ≤ y)) :=
    filt_two (fun q hq => by rw [Bool.eq_iff_iff]; simp [crnF, onN]; omega) (fun q hq h => by simp [crnF, onN] at h ⊢; omega)
  have h2 : (l.filter (crnF x (y + 1) false true) ++ l.filter (crnF (x + 1) (y + 1) true true)).Perm (l.filter fun p => decide (y + 1 ≤ p.2.1)) :=
    filt_two (fun q hq => by rw [Bool.eq_iff_iff]; simp [crnF, onN]; omega) (fun q hq h => by simp [crnF, onN] at h ⊢; omega)
  have h3 : ((l.filter fun p => decide (p.2.1 ≤ y)) ++ l.filter fun p => decide (y + 1 ≤ p.2.1)).Perm (l.filter fun _ => true) :=
    filt_two (fun q hq => by rw [Bool.eq_iff_iff]; simp; omega) (fun q hq h => by simp at h ⊢; omega)
  have h4 := (h1.append h2).trans h3
  rw [List.filter_eq_self.2 (fun _ _ => rfl)] at h4
  have h5 := h4.map (fun p : Pt => p.2.2)
  simp only [List.map_append] at h5
  have e : ∀ f, (hasN l f).Perm ((l.filter f).map fun p => p.2.2) := fun f => List.mergeSort_perm _ _
  unfold fourL
  refine List.Perm.trans ?_ h5
  rw [List.append_assoc, List.append_assoc, List.append_assoc]
  have c1 := e (crnF x y false false)
  have c2 := e (crnF (x + 1) y true false)
  have c3 := e (crnF x (y + 1) false true)
  have c4 := e (crnF (x + 1) (y + 1) true true)
  have := c1.append (c2.append (c3.append c4))
  simpa using this
end Go.Proofs.YthpgkldpbbajfaaGreat

/- corner.on, box, nothing, none. -/
namespace Go.Proofs.YthpgkldpbbajfaaGreat
open Go.RowKit Go.Maps
attribute [local irreducible] wpQuiet
set_option linter.unusedSimpArgs false
set_option linter.unusedVariables false

theorem cn_on (x : Int) (up : Bool) (w : World) :
    Calls Tryz.prog 111 #[.int .i64 x, .bool up] w fun e w' => e = .returned (.tuple #[.int .i64 (bx1 x up), .int .i64 (bx2 x up)]) ∧ w' = w := by
  cases up
  all_goals
    go_enter Tryz.func111, Tryz.ntmps111
    go_wp2
    go_ret2
    exact ⟨rfl, rfl⟩

set_option maxRecDepth 100000 in
set_option maxHeartbeats 4000000 in
theorem cn_boxE (x y : Int) (wx wy : Bool) (way : Int) (hway : way = (if wx then 1 else 0) + (if wy then 2 else 0)) (w : World) :
    Calls Tryz.prog 59 #[.int .i64 x, .int .i64 y, .int .u8 way] w fun e w' => e = .returned (.agg #[.int .i64 (bx1 x wx), .int .i64 (bx2 x wx), .int .i64 (bx1 y wy), .int .i64 (bx2 y wy), .int .u32 0]) ∧ w' = (w.alloc (.cells #[.int .i64 (bx1 x wx), .int .i64 (bx2 x wx), .int .i64 (bx1 y wy), .int .i64 (bx2 y wy), .int .u32 0] 51)).alloc (.cells #[.int .i64 (bx1 x wx), .int .i64 (bx2 x wx), .int .i64 (bx1 y wy), .int .i64 (bx2 y wy), .int .u32 0] 51) := by
  have C := Lib.hid (fun x up w => cn_on x up w)
  cases wx <;> cases wy <;> simp only [if_true, if_false, Bool.false_eq_true, Int.add_zero, Int.zero_add, Int.reduceAdd] at hway <;> subst hway
  all_goals
    go_enter Tryz.func59, Tryz.ntmps59
    go_wp2_with (go_at_call 111; refine (C.out _ _ _).mono ?_; rintro e w1 ⟨rfl, rfl⟩)
    (try simp only [Exit.inBlock, Exit.then])
    refine bodyPost_ret (results_cell_row rfl _ _ w.heap.size _ _ _ _ rfl (lit1 _ _ _) Tryz.underlying51 rfl (by kernel_rfl)) rfl ?_
    first
      | exact ⟨rfl, rfl⟩
      | (simp only [show (bits .and .u8 0 1 == 1) = false by decide, show (bits .and .u8 0 2 == 2) = false by decide, show (bits .and .u8 1 1 == 1) = true by decide, show (bits .and .u8 1 2 == 2) = false by decide, show (bits .and .u8 2 1 == 1) = false by decide, show (bits .and .u8 2 2 == 2) = true by decide, show (bits .and .u8 3 1 == 1) = true by decide, show (bits .and .u8 3 2 == 2) = true by decide]; exact ⟨rfl, rfl⟩)

theorem cn_box (x y : Int) (wx wy : Bool) (way : Int) (hway : way = (if wx then 1 else 0) + (if wy then 2 else 0)) (w : World) :
    Calls Tryz.prog 59 #[.int .i64 x, .int .i64 y, .int .u8 way] w fun e w' => e = .returned (.agg #[.int .i64 (bx1 x wx), .int .i64 (bx2 x wx), .int .i64 (bx1 y wy), .int .i64 (bx2 y wy), .int .u32 0]) ∧ Below w.heap.size w w' :=
  (cn_boxE x y wx wy way hway w).mono fun e w' ⟨h1, h2⟩ => ⟨h1, by rw [h2]; exact ((Below.refl _ _).alloc (Nat.le_refl _) _).alloc (by simp) _⟩

theorem cn_nothing (w : World) :
    Calls Tryz.prog 60 #[] w fun e w' => e = .returned (.agg #[.int .i64 1, .int .i64 0, .int .i64 0, .int .i64 0, .int .u32 0]) ∧ Below w.heap.size w w' := by
  go_enter Tryz.func60, Tryz.ntmps60
  go_wp2
  (try simp only [Exit.inBlock, Exit.then])
  refine bodyPost_ret (results_cell_row rfl _ _ w.heap.size _ _ _ _ rfl (lit0 _ _) Tryz.underlying51 rfl (by kernel_rfl)) rfl ?_
  exact ⟨rfl, (Below.refl _ _).alloc (Nat.le_refl _) _⟩

theorem cn_none_nil (w : World) :
    Calls Tryz.prog 112 #[.pointer none] w fun e w' => e = .returned (.bool true) ∧ w' = w := by
  go_enter Tryz.func112, Tryz.ntmps112
  go_wp2
  go_ret
  exact ⟨rfl, rfl⟩
theorem cn_none (cb : Nat) (tb : Nat) (w : World) (h : w.cell? ⟨cb, 0, none⟩ = some (.pointer (some ⟨tb, 0, none⟩))) :
    Calls Tryz.prog 112 #[.pointer (some ⟨cb, 0, none⟩)] w fun e w' => e = .returned (.bool false) ∧ w' = w := by
  go_enter Tryz.func112, Tryz.ntmps112
  go_wp2
  go_ret
  exact ⟨rfl, rfl⟩
end Go.Proofs.YthpgkldpbbajfaaGreat

/- corner.Report, Count, Drop, Len, over whatever a cascade tells. -/
namespace Go.Proofs.YthpgkldpbbajfaaGreat
open Go.RowKit Go.Maps
attribute [local irreducible] wpQuiet
attribute [local go_sem] Oper.still1
set_option linter.unusedSimpArgs false
set_option linter.unusedVariables false

theorem ent_cbox : ∀ args w, (callFunc 59 args).run Tryz.prog w = .ok (.enter 59 args) w := enters_of Tryz.func59 (by kernel_rfl) rfl
theorem ent_cReport : ∀ args w, (callFunc 27 args).run Tryz.prog w = .ok (.enter 27 args) w := enters_of Tryz.func27 (by kernel_rfl) rfl
theorem ent_cCount : ∀ args w, (callFunc 29 args).run Tryz.prog w = .ok (.enter 29 args) w := enters_of Tryz.func29 (by kernel_rfl) rfl
theorem ent_cnone : ∀ args w, (callFunc 112 args).run Tryz.prog w = .ok (.enter 112 args) w := enters_of Tryz.func112 (by kernel_rfl) rfl
section
variable {w : World} {cb tb : Nat}

set_option maxRecDepth 100000 in
set_option maxHeartbeats 4000000 in
theorem cn_Report {R : World → Value → Value → World → Prop} (hcl : cb < w.heap.size) (hc : w.cell? ⟨cb, 0, none⟩ = some (.pointer (some ⟨tb, 0, none⟩))) (x y : Int) (wx wy : Bool) (way : Int) (hway : way = (if wx then 1 else 0) + (if wy then 2 else 0))
    (C : ∀ W, Below w.heap.size w W → Calls Tryz.prog 27 #[.pointer (some ⟨tb, 0, none⟩), .agg #[.int .i64 (bx1 x wx), .int .i64 (bx2 x wx), .int .i64 (bx1 y wy), .int .i64 (bx2 y wy), .int .u32 0]] W fun e W' => ∃ v c, e = .returned (.tuple #[v, c]) ∧ Below W.heap.size W W' ∧ R W v c W') :
    Calls Tryz.prog 62 #[.pointer (some ⟨cb, 0, none⟩), .int .i64 x, .int .i64 y, .int .u8 way] w fun e w' => ∃ v c, e = .returned (.tuple #[v, c]) ∧ ∃ W, Below w.heap.size w W ∧ R W v c w' := by
  have CN := Lib.hid (cn_none cb tb w hc)
  have CX := Lib.hid (fun W => cn_box x y wx wy way hway W)
  have CC := Lib.hid C
  have d3 : decide (3 < way) = false := by simp only [decide_eq_false_iff_not]; cases wx <;> cases wy <;> simp at hway <;> omega
  have d3' : decide (way > 3) = false := d3
  have HCL := Lib.hid hcl
  clear C hway
  generalize bx1 x wx = a1 at *
  generalize bx2 x wx = a2 at *
  generalize bx1 y wy = a3 at *
  generalize bx2 y wy = a4 at *
  go_enter Tryz.func62, Tryz.ntmps62
  go_wp2_with fail
  refine CN.out.mono ?_
  rintro e w1 ⟨rfl, rfl⟩
  go_wp2_with fail
  have gC : ∀ p : BelowW w1, p.W.cell? ⟨cb, 0, none⟩ = some (.pointer (some ⟨tb, 0, none⟩)) := cell_belowW hc
  refine wp_region_head (fun W => ∃ p : BelowW w1, W = p.W) [8, 9, 10, 11, 12] [(0, false), (1, false), (2, false), (3, true), (4, false), (5, false), (6, false)] (by kernel_rfl) (by kernel_rfl) (fun _ _ d _ _ h => by cases d <;> exact h) ⟨⟨_, (Below.refl _ _).drew⟩, rfl⟩ 6 rfl (by kernel_rfl) ?_
  simp only [pickB, List.filterMap_cons, List.filterMap_nil, List.getElem?_toArray, List.getElem?_cons_succ, List.getElem?_cons_zero, Option.map_some]
  repeat (refine wpHd_step (fun K hK => ?_); go_simp; first | (refine hK _ ?_; clear hK K) | (apply Exists.intro; refine ⟨fun _ => ?_, hK _ ?_⟩; rfl; clear hK K))
  refine wpHd_nil ?_
  refine wpAnyT_ready [7] (by kernel_rfl) (by simp) ?_
  refine AllReadyT.cons rfl (fun K hK => ?_) AllReadyT.nil
  refine step_call ent_cbox rfl _ _ rfl (vals := #[.int .i64 x, .int .i64 y, .int .u8 way]) rfl (CX.out _) ?_
  rintro e w2 ⟨rfl, hb2⟩
  have B2 : Below w1.heap.size w1 w2 := (Below.refl _ _).drew.trans hb2
  refine ⟨_, rfl, ?_⟩
  refine hK _ _ (fun _ _ => ⟨⟨_, B2⟩, rfl⟩) ?_
  clear hK K
  have CY := Lib.hid (CC.out w2 B2)
  clear CC hb2 gC
  refine wpAnyT_ready [8] (by kernel_rfl) (by simp) ?_
  refine AllReadyT.cons rfl (fun K hK => ?_) AllReadyT.nil
  refine step_call ent_cReport rfl _ _ rfl (vals := #[.pointer (some ⟨tb, 0, none⟩), .agg #[.int .i64 a1, .int .i64 a2, .int .i64 a3, .int .i64 a4, .int .u32 0]]) rfl CY.out ?_
  rintro e w3 ⟨v, c, rfl, hb3, hR⟩
  have B3 := B2.trans (hb3.mono B2.size)
  have HR := Lib.hid hR
  have HB2 := Lib.hid B2
  clear hR B2 hb3
  refine ⟨_, rfl, ?_⟩
  refine hK _ _ (fun _ _ => ⟨⟨_, B3⟩, rfl⟩) ?_
  clear hK K
  refine wpAnyT_next [(9, false), (10, false)] (by kernel_rfl) (fun _ _ d _ _ h => by cases d <;> exact h) ⟨⟨_, B3⟩, rfl⟩ (by kernel_rfl) (by kernel_rfl) rfl ?_
  simp only [pickB, List.filterMap_cons, List.filterMap_nil, List.getElem?_toArray, List.getElem?_cons_succ, List.getElem?_cons_zero, Option.map_some]
  repeat (refine wpHd_step (fun K hK => ?_); go_simp; first | (refine hK _ ?_; clear hK K) | (apply Exists.intro; refine ⟨fun _ => ?_, hK _ ?_⟩; rfl; clear hK K))
  refine wpHd_nil ?_
  refine wpAnyT_line [11, 12] _ _ _ (by kernel_rfl) ?_
  simp only [pick, List.filterMap_cons, List.filterMap_nil, List.getElem?_toArray, List.getElem?_cons_succ, List.getElem?_cons_zero]
  go_wp2_with fail
  go_ret2
  exact ⟨v, c, rfl, w2, HB2.out, HR.out⟩

theorem cn_Report_no {w : World} (p : Option Addr) (hp : p = none ∨ ∃ cb tb, p = some ⟨cb, 0, none⟩ ∧ w.cell? ⟨cb, 0, none⟩ = some (.pointer (some ⟨tb, 0, none⟩))) (x y way : Int) (hw : p = none ∨ 3 < way) :
    Calls Tryz.prog 62 #[.pointer p, .int .i64 x, .int .i64 y, .int .u8 way] w fun e w' => e = .returned (.tuple #[.slice none 0 0, .int .i64 0]) ∧ w' = w := by
  rcases hp with rfl | ⟨cb, tb, rfl, hc⟩
  · have CN := Lib.hid (cn_none_nil w)
    go_enter Tryz.func62, Tryz.ntmps62
    go_wp2_with (go_at_call 112; refine CN.out.mono ?_; rintro e w1 ⟨rfl, rfl⟩)
    go_ret2
    exact ⟨rfl, rfl⟩
  · have CN := Lib.hid (cn_none cb tb w hc)
    have d3 : decide (3 < way) = true := by rcases hw with h | h; cases h; simpa using h
    have d3' : decide (way > 3) = true := d3
    clear hw
    go_enter Tryz.func62, Tryz.ntmps62
    go_wp2_with (go_at_call 112; refine CN.out.mono ?_; rintro e w1 ⟨rfl, rfl⟩)
    go_ret2
    exact ⟨rfl, rfl⟩

end
end Go.Proofs.YthpgkldpbbajfaaGreat

/- corner.Drop, Build over whatever a cascade does. -/
namespace Go.Proofs.YthpgkldpbbajfaaGreat
open Go.RowKit Go.Maps
attribute [local irreducible] wpQuiet
attribute [local go_sem] Oper.still1
set_option linter.unusedSimpArgs false
set_option linter.unusedVariables false

theorem ent_cDrop : ∀ args w, (callFunc 46 args).run Tryz.prog w = .ok (.enter 46 args) w := enters_of Tryz.func46 (by kernel_rfl) rfl
section
variable {w : World} {cb tb : Nat}

theorem cn_Build_bad {a : Option Addr} {n c : Nat} {v : Value} {er : Int} (hne : er ≠ 0) (C : Calls Tryz.prog 44 #[.slice a n c] w fun e W' => e = .returned (.tuple #[v, .int .i64 er]) ∧ Below w.heap.size w W') :
    Calls Tryz.prog 18 #[.slice a n c] w fun e w' => e = .returned (.tuple #[.pointer none, .int .i64 er]) ∧ Below w.heap.size w w' := by
  have CC := Lib.hid C
  have hq : (er == 0) = false := by simpa using hne
  clear C hne
  go_enter Tryz.func18, Tryz.ntmps18
  go_wp2_with (go_at_call 44; refine CC.out.mono ?_; rintro e w1 ⟨rfl, hb1⟩)
  go_ret2
  exact ⟨rfl, hb1⟩

theorem cn_Build {a : Option Addr} {n c : Nat} {R : Nat → World → Prop} (C : Calls Tryz.prog 44 #[.slice a n c] w fun e W' => ∃ tb, e = .returned (.tuple #[.pointer (some ⟨tb, 0, none⟩), .int .i64 0]) ∧ Below w.heap.size w W' ∧ R tb W') :
    Calls Tryz.prog 18 #[.slice a n c] w fun e w' => ∃ tb W, e = .returned (.tuple #[.pointer (some ⟨W.heap.size, 0, none⟩), .int .i64 0]) ∧ R tb W ∧ Below w.heap.size w W ∧ w' = W.alloc (.cells #[.pointer (some ⟨tb, 0, none⟩)] 91) := by
  have CC := Lib.hid C
  clear C
  go_enter Tryz.func18, Tryz.ntmps18
  go_wp2_with (go_at_call 44; refine CC.out.mono ?_; rintro e w1 ⟨tb, rfl, hb1, hR⟩; have HR := Lib.hid hR; clear hR)
  go_ret2
  exact ⟨tb, w1, rfl, HR.out, hb1, rfl⟩
end
end Go.Proofs.YthpgkldpbbajfaaGreat

/- corner.all: what some boxes have, in order. -/
namespace Go.Proofs.YthpgkldpbbajfaaGreat
open Go.RowKit Go.Maps
attribute [local irreducible] wpQuiet
attribute [local go_sem] Oper.still1
set_option linter.unusedSimpArgs false
set_option linter.unusedVariables false

theorem flat_take {α : Type} {l : List α} {i : Nat} (hi : i < l.length) (F : α → List Int) : (l.take (i + 1)).flatMap F = (l.take i).flatMap F ++ F l[i] := by
  rw [List.take_succ_eq_append_getElem hi, List.flatMap_append]
  simp

theorem map_flat {α β : Type} (f : α → β) : ∀ M : List α, M.map f = M.flatMap fun x => [f x]
  | [] => rfl
  | x :: l => by rw [List.map_cons, List.flatMap_cons, ← map_flat f l]; rfl

set_option maxRecDepth 100000 in
set_option maxHeartbeats 8000000 in
theorem cn_all {w : World} {cb tb K : Nat} (F : Bx → List Int) (hcl : cb < w.heap.size) (hc : w.cell? ⟨cb, 0, none⟩ = some (.pointer (some ⟨tb, 0, none⟩)))
    (BL : List Bx) (ab : Option Addr) (nb kb : Nat) (hn : BL.length = nb) (hB : RdK eBx 5 w ab BL) (hl : nb ≤ 2) (hK : K ≤ 100000) (hF : ∀ b, (F b).length ≤ 20000)
    (C : ∀ W, Below w.heap.size w W → ∀ b : Bx, Calls Tryz.prog 27 #[.pointer (some ⟨tb, 0, none⟩), .agg #[.int .i64 b.1, .int .i64 b.2.1, .int .i64 b.2.2.1, .int .i64 b.2.2.2.1, .int .u32 b.2.2.2.2]] W fun e W' => ∃ v, ∃ c : Nat, e = .returned (.tuple #[v, .int .i64 ((c + (F b).length : Nat) : Int)]) ∧ c ≤ K ∧ W'.ownsRow W.heap.size 32 1 v (F b).length ((F b).map (Value.int .u32)) ∧ Below W.heap.size W W') :
    Calls Tryz.prog 61 #[.pointer (some ⟨cb, 0, none⟩), .slice ab nb kb] w fun e w' => ∃ v, ∃ c : Nat, e = .returned (.tuple #[v, .int .i64 ((c + (BL.flatMap F).length : Nat) : Int)]) ∧ c ≤ nb * K ∧ w'.ownsRow w.heap.size 32 1 v (srtI (BL.flatMap F)).length ((srtI (BL.flatMap F)).map (Value.int .u32)) ∧ Below w.heap.size w w' := by
  subst hn
  obtain ⟨T, hT⟩ : ∃ T, T = BL.flatMap F := ⟨_, rfl⟩
  rw [← hT]
  have HTT := Lib.hid hT
  clear hT
  have CN := Lib.hid (cn_none cb tb w hc)
  have HPR := Lib.hid hB
  have CC := Lib.hid C
  have HFL := Lib.hid hF
  have HC := Lib.hid hc
  clear C hB hF hc
  go_enter Tryz.func61, Tryz.ntmps61
  go_wp2_with (go_at_call 112; refine CN.out.mono ?_; rintro e w1 ⟨rfl, rfl⟩)
  clear CN
  go_loopw [6, 7, 16] (fun ov tv iv wr => ∃ (i c : Nat), iv = .int .i64 i ∧ i ≤ BL.length ∧ c ≤ i * K ∧ tv = .int .i64 ((c + ((BL.take i).flatMap F).length : Nat) : Int) ∧ Hid (wr.ownsRow w1.heap.size 32 1 ov ((BL.take i).flatMap F).length (((BL.take i).flatMap F).map (Value.int .u32))) ∧ ((BL.take i).flatMap F).length ≤ i * 20000 ∧ Below w1.heap.size w1 wr) (fun _ _ iv _ => BL.length - (intOf iv).toNat)
  case atStart => exact ⟨0, 0, rfl, Nat.zero_le _, Nat.zero_le _, by simp, by simp; exact World.ownsRow_nil _ _ _ _, by simp, Below.refl _ _⟩
  case round =>
    obtain ⟨i, c, rfl, hi, hci, rfl, HO, hfl, hb⟩ := hrel
    have hcb : c ≤ 200000 := Nat.le_trans hci (Nat.le_trans (Nat.mul_le_mul (show i ≤ 2 by omega) hK) (by decide))
    by_cases hlt : i < BL.length
    · obtain ⟨b2, off, ea, hbl, hcs⟩ := (HPR.out.below hb).get (by omega)
      have x0 := hcs i hlt 0 (by omega)
      have x1 := hcs i hlt 1 (by omega)
      have x2 := hcs i hlt 2 (by omega)
      have x3 := hcs i hlt 3 (by omega)
      have x4 := hcs i hlt 4 (by omega)
      simp only [eBx, List.getElem?_cons_zero, List.getElem?_cons_succ, Nat.add_zero] at x0 x1 x2 x3 x4
      have EA := Lib.hid ea
      have FT := Lib.hid (flat_take hlt F)
      have hq9 := HFL.out BL[i]
      clear hcs ea
      generalize BL[i] = q at *
      generalize (BL.take i).flatMap F = L at *
      have CQ := Lib.hid (fun W hW => CC.out W hW q)
      obtain ⟨q1, q2, q3, q4, q5⟩ := q
      simp only at x0 x1 x2 x3 x4
      have hkl2 : (i : Int) < (BL.length : Int) := by omega
      obtain rfl := EA.out
      clear EA
      obtain ⟨w4, ew4⟩ : ∃ w4, w4 = wr.alloc (.cells #[.int .i64 q1, .int .i64 q2, .int .i64 q3, .int .i64 q4, .int .u32 q5] 51) := ⟨_, rfl⟩
      have b4 : Below wr.heap.size wr w4 := by rw [ew4]; exact (Below.refl _ _).alloc (Nat.le_refl _) _
      have X4 : w4.heap[wr.heap.size]? = some (objBx (q1, q2, q3, q4, q5)) := by rw [ew4]; exact lit0 _ _
      have hs4 : wr.heap.size < w4.heap.size := (Array.getElem?_eq_some_iff.1 X4).1
      have B4 := hb.trans (b4.mono hb.size)
      have HO4 := Lib.hid (ownsRow_below HO.out b4)
      have EX := ew4.symm
      obtain ⟨y0, y1, y2, y3, y4⟩ := objBx_cells X4
      have hc4 := (B4.cell (p := ⟨cb, 0, none⟩) hcl).trans HC.out
      clear ew4 b4
      go_wp2_with fail
      try rw [EX]
      clear EX x0 x1 x2 x3 x4
      have g0 := cell_belowW hc4
      have g1 := cell_belowW y0
      have g2 := cell_belowW y1
      have g3 := cell_belowW y2
      have g4 := cell_belowW y3
      have g5 := cell_belowW y4
      have CY := Lib.hid (CQ.out w4.drew B4.drew)
      have HB4 := Lib.hid (show Below w1.heap.size w1 w4.drew from B4.drew)
      have HX4 := Lib.hid (show w4.drew.heap[wr.heap.size]? = _ from X4)
      clear hc4 y0 y1 y2 y3 y4 B4 CQ X4
      refine wp_region_head (fun W => ∃ p : BelowW w4, W = p.W) [5, 6, 7, 8, 9, 10] [(0, false), (1, false), (2, false), (3, true), (4, true)] (by kernel_rfl) (by kernel_rfl) (fun _ _ d _ _ h => by cases d <;> exact h) ⟨⟨_, (Below.refl _ _).drew⟩, rfl⟩ 6 rfl (by kernel_rfl) ?_
      simp only [pickB, List.filterMap_cons, List.filterMap_nil, List.getElem?_toArray, List.getElem?_cons_succ, List.getElem?_cons_zero, Option.map_some]
      repeat (refine wpHd_step (fun K hK => ?_); go_simp; first | (refine hK _ ?_; clear hK K) | (apply Exists.intro; refine ⟨fun _ => ?_, hK _ ?_⟩; rfl; clear hK K))
      refine wpHd_nil ?_
      refine wpAnyT_ready [5] (by kernel_rfl) (by simp) ?_
      refine AllReadyT.cons rfl (fun K hK => ?_) AllReadyT.nil
      refine step_call ent_cReport rfl _ _ rfl (vals := #[.pointer (some ⟨tb, 0, none⟩), .agg #[.int .i64 q1, .int .i64 q2, .int .i64 q3, .int .i64 q4, .int .u32 q5]]) rfl CY.out ?_
      rintro e w5 ⟨v5, c5, rfl, hc5, hown5, hb5⟩
      refine ⟨_, rfl, ?_⟩
      refine hK _ _ (fun _ _ => ⟨⟨_, (Below.refl _ _).drew.trans hb5⟩, rfl⟩) ?_
      clear hK K
      refine wpAnyT_next [(6, false), (7, false), (8, false)] (by kernel_rfl) (fun _ _ d _ _ h => by cases d <;> exact h) ⟨⟨_, (Below.refl _ _).drew.trans hb5⟩, rfl⟩ (by kernel_rfl) (by kernel_rfl) rfl ?_
      simp only [pickB, List.filterMap_cons, List.filterMap_nil, List.getElem?_toArray, List.getElem?_cons_succ, List.getElem?_cons_zero, Option.map_some]
      repeat (refine wpHd_step (fun K hK => ?_); go_simp; first | (refine hK _ ?_; clear hK K) | (apply Exists.intro; refine ⟨fun _ => ?_, hK _ ?_⟩; rfl; clear hK K))
      refine wpHd_nil ?_
      refine wpAnyT_line [9, 10] _ _ _ (by kernel_rfl) ?_
      simp only [pick, List.filterMap_cons, List.filterMap_nil, List.getElem?_toArray, List.getElem?_cons_succ, List.getElem?_cons_zero]
      have B5 := HB4.out.trans (hb5.mono HB4.out.size)
      have HO5 := Lib.hid (ownsRow_below (show w4.drew.ownsRow _ _ _ _ _ _ from HO4.out) hb5)
      obtain ⟨a5, k5, rfl, -, -, hr5⟩ := Rd.of_owns hown5
      have HR5 := Lib.hid (Rd.toK (show Rd (.int .u32) w5 a5 (F (q1, q2, q3, q4, q5)) from hr5))
      have hbs : w1.heap.size ≤ w5.heap.size := B5.size
      have HB5 := Lib.hid B5
      generalize F (q1, q2, q3, q4, q5) = M at *
      have hLM : L.length + M.length ≤ 60000 := by
        have : i * 20000 ≤ 20000 := by have : i ≤ 1 := by omega
                                       omega
        omega
      clear hr5 hown5 hb5 HX4 HB4 HO4 CY g0 g1 g2 g3 g4 g5 B5
      have hh1 : L.length + M.length ≤ maxLen := by unfold maxLen; omega
      have hh2 : (L.length + M.length) * 4 ≤ 140737488355328 := by omega
      go_wp2_with (at_builtin; refine wp_appendK elU32 (enc := fun x => [Value.int .u32 x]) (fun _ => rfl) (fun x u hu => by simp at hu; subst hu; rfl) w1.heap.size HO5.out HR5.out rfl _ _ rfl rfl k5 rfl hh1 hh2 hbs ?_; intro v6 w6 hown6 hg6; have b6 := below_grown HB5.out HO5.out hg6 hbs (Nat.le_refl _))
      go_roundw
      case rel =>
        refine ⟨i + 1, c + c5, by go_num, by omega, ?_, ?_, ?_, ?_, b6⟩
        · rw [Nat.succ_mul]; omega
        · rw [FT.out, List.length_append]; first | go_num | (simp only [Value.int.injEq, true_and]; omega)
        · show World.ownsRow _ _ _ _ _ _ _
          rw [FT.out, List.length_append, List.map_append]
          have e2 : M.map (Value.int .u32) = M.flatMap (fun x => [Value.int .u32 x]) := map_flat _ M
          rw [e2]
          exact hown6
        · rw [FT.out, List.length_append]; omega
      case measure => simp [intOf]; omega
    · obtain rfl : i = BL.length := by omega
      rw [List.take_length, ← HTT.out] at *
      have hle : T.length ≤ 1000000 := by omega
      have CS := Lib.hid (sortU32 HO.out hle)
      have HOO := Lib.hid HO.out
      clear hle
      go_wp2_with (go_at_call 76; refine CS.out.mono ?_; rintro e w6 ⟨rfl, hown6, hk6⟩; have b6 := hb.trans (hk6.toBelow hb.size (fun k h => (HOO.out.lt k h).1)))
      go_ret2
      exact ⟨_, c, rfl, hci, by rw [srtI_len]; exact hown6, b6⟩
end Go.Proofs.YthpgkldpbbajfaaGreat

/- corner.Over, Under (printed by gen_core.py). -/
namespace Go.Proofs.YthpgkldpbbajfaaGreat
open Go.RowKit Go.Maps
attribute [local irreducible] wpQuiet
attribute [local go_sem] Oper.still1
set_option linter.unusedSimpArgs false
set_option linter.unusedVariables false
/-- a box without a name -/
abbrev bxO (b : Bx4) : Bx := (b.1, b.2.1, b.2.2.1, b.2.2.2, 0)

set_option maxRecDepth 100000 in
set_option maxHeartbeats 8000000 in
theorem cn_Over {w : World} {cb : Nat} (px py pi : Int) (hx : leastI ≤ px ∧ px ≤ mostI) (hy : leastI ≤ py ∧ py ≤ mostI) {R : World → Value → Value → World → Prop}
    (C : ∀ W, Below w.heap.size w W → ∀ ab, RdK eBx 5 W ab [bxO (aboveB (px, py, pi)), bxO (rightB (px, py, pi))] → Calls Tryz.prog 61 #[.pointer (some ⟨cb, 0, none⟩), .slice ab 2 2] W fun e W' => ∃ v c, e = .returned (.tuple #[v, c]) ∧ R W v c W') :
    Calls Tryz.prog 19 #[.pointer (some ⟨cb, 0, none⟩), vPt px py pi] w fun e w' => ∃ v c, e = .returned (.tuple #[v, c]) ∧ ∃ W, Below w.heap.size w W ∧ R W v c w' := by
  have CC := Lib.hid C
  have HX := Lib.hid hx
  have HY := Lib.hid hy
  have NT := Lib.hid (fun W => cn_nothing W)
  clear C hx hy
  have CB := Lib.hid (fun W => cn_box px py true true 3 rfl W)
  go_enter Tryz.func19, Tryz.ntmps19
  go_upto_region 1 with fail
  obtain ⟨w1, ew1⟩ : ∃ w1, w1 = w.alloc (.cells #[.int .i64 px, .int .i64 py, .int .u32 pi] 34) := ⟨_, rfl⟩
  have hx1 : w1.heap[w.heap.size]? = some (obP (px, py, pi)) := by rw [ew1]; exact lit0 _ _
  have B1 : Below w.heap.size w w1 := by rw [ew1]; exact (Below.refl _ _).alloc (Nat.le_refl _) _
  rw [← ew1]
  clear ew1
  obtain ⟨hc1, hc2, -⟩ := obP_cells hx1
  have hwl : w.heap.size < w1.heap.size := (Array.getElem?_eq_some_iff.1 hx1).1
  have HWL := Lib.hid hwl
  have HB1 := Lib.hid B1
  have HX1 := Lib.hid hx1
  have g1 := cell_belowW hc1
  have g2 := cell_belowW hc2
  clear B1 hx1
  go_cut [6, 7] from 8 (fun v6 v7 wx => ∃ g6 g7, v6 = .pointer (some ⟨g6, 0, none⟩) ∧ v7 = .pointer (some ⟨g7, 0, none⟩) ∧ Hid (g6 ≠ g7) ∧ w.heap.size < g6 ∧ w.heap.size < g7 ∧ Hid (Below w.heap.size w wx) ∧ Hid (wx.heap[w.heap.size]? = some (obP (px, py, pi))) ∧ Hid (wx.heap[g6]? = some (objBx (px, 9223372036854775807, py, 9223372036854775807, 0))) ∧ Hid (wx.heap[g7]? = some (objBx (px, 9223372036854775807, py, 9223372036854775807, 0))))
  case first =>
    refine wp_region_head (fun W => ∃ p : BelowW w1, W = p.W) [9, 12, 13] [(0, false), (1, true), (2, false), (3, true), (5, false), (6, true), (7, false), (8, true)] (by kernel_rfl) (by kernel_rfl) (fun _ _ d _ _ h => by cases d <;> exact h) ⟨⟨_, (Below.refl _ _).drew⟩, rfl⟩ 6 rfl (by kernel_rfl) ?_
    simp only [pickB, List.filterMap_cons, List.filterMap_nil, List.getElem?_toArray, List.getElem?_cons_succ, List.getElem?_cons_zero, Option.map_some]
    repeat (refine wpHd_step (fun K hK => ?_); go_simp; first | (refine hK _ ?_; clear hK K) | (apply Exists.intro; refine ⟨fun _ => ?_, hK _ ?_⟩; rfl; clear hK K))
    refine wpHd_nil ?_
    have B0 : Below w1.heap.size w1 w1.drew := (Below.refl _ _).drew
    have hs0 : w1.heap.size = w1.drew.heap.size := rfl
    generalize w1.drew = w0 at *
    refine wpAnyT_ready [4, 10, 11] (by kernel_rfl) (by simp) ?_
    refine AllReadyT.cons rfl (fun K hK => ?_) (AllReadyT.cons rfl (fun K hK => ?_) (AllReadyT.cons rfl (fun K hK => ?_) AllReadyT.nil))
    · refine step_call ent_cbox rfl _ _ rfl (vals := #[.int .i64 px, .int .i64 py, .int .u8 3]) rfl (CB.out _) ?_
      rintro e v1 ⟨rfl, hb1⟩
      have B1 := B0.trans (hb1.mono B0.size)
      have hs1 := hb1.size
      refine ⟨_, rfl, ?_⟩
      refine hK _ _ (fun _ _ => ⟨⟨_, B1⟩, rfl⟩) ?_
      clear hK K
      refine wpAnyT_ready [9, 10, 11] (by kernel_rfl) (by simp) ?_
      refine AllReadyT.cons rfl (fun K hK => ?_) (AllReadyT.cons rfl (fun K hK => ?_) (AllReadyT.cons rfl (fun K hK => ?_) AllReadyT.nil))
      · refine step_call ent_cbox rfl _ _ rfl (vals := #[.int .i64 px, .int .i64 py, .int .u8 3]) rfl (CB.out _) ?_
        rintro e v2 ⟨rfl, hb2⟩
        have B2 := B1.trans (hb2.mono B1.size)
        have hs2 := hb2.size
        refine ⟨_, rfl, ?_⟩
        refine hK _ _ (fun _ _ => ⟨⟨_, B2⟩, rfl⟩) ?_
        clear hK K
        refine wpAnyT_ready [10, 11] (by kernel_rfl) (by simp) ?_
        refine AllReadyT.cons rfl (fun K hK => ?_) (AllReadyT.cons rfl (fun K hK => ?_) AllReadyT.nil)
        · go_simp
          obtain ⟨v3, e3⟩ : ∃ W, W = v2.alloc (.cells #[.int .i64 0, .int .i64 0, .int .i64 0, .int .i64 0, .int .u32 0] 51) := ⟨_, rfl⟩
          have hb3 : Below v2.heap.size v2 v3 := by rw [e3]; exact (Below.refl _ _).alloc (Nat.le_refl _) _
          have B3 := B2.trans (hb3.mono B2.size)
          have X6_3 : v3.heap[v2.heap.size]? = some (.cells #[.int .i64 0, .int .i64 0, .int .i64 0, .int .i64 0, .int .u32 0] 51 (0, 0) : Obj) := by rw [e3]; exact lit0 _ _
          have hs3 : v2.heap.size < v3.heap.size := (Array.getElem?_eq_some_iff.1 X6_3).1
          rw [← e3]
          clear e3
          refine hK _ _ (fun _ _ => ⟨⟨_, B3⟩, rfl⟩) ?_
          clear hK K
          refine wpAnyT_ready [11] (by kernel_rfl) (by simp) ?_
          refine AllReadyT.cons rfl (fun K hK => ?_) AllReadyT.nil
          · go_simp
            obtain ⟨v4, e4⟩ : ∃ W, W = v3.alloc (.cells #[.int .i64 0, .int .i64 0, .int .i64 0, .int .i64 0, .int .u32 0] 51) := ⟨_, rfl⟩
            have hb4 : Below v3.heap.size v3 v4 := by rw [e4]; exact (Below.refl _ _).alloc (Nat.le_refl _) _
            have B4 := B3.trans (hb4.mono B3.size)
            have X6_4 := (hb4.block _ (Array.getElem?_eq_some_iff.1 X6_3).1).trans X6_3
            have X7_4 : v4.heap[v3.heap.size]? = some (.cells #[.int .i64 0, .int .i64 0, .int .i64 0, .int .i64 0, .int .u32 0] 51 (0, 0) : Obj) := by rw [e4]; exact lit0 _ _
            have hs4 : v3.heap.size < v4.heap.size := (Array.getElem?_eq_some_iff.1 X7_4).1
            rw [← e4]
            clear e4
            refine hK _ _ (fun _ _ => ⟨⟨_, B4⟩, rfl⟩) ?_
            clear hK K
            have ne : v2.heap.size ≠ v3.heap.size := by omega
            have l6 : w1.heap.size ≤ v2.heap.size := by omega
            have l7 : w1.heap.size ≤ v3.heap.size := by omega
            refine wpAnyT_line [12, 13] _ _ _ (by kernel_rfl) ?_
            simp only [pick, List.filterMap_cons, List.filterMap_nil, List.getElem?_toArray, List.getElem?_cons_succ, List.getElem?_cons_zero]
            refine wpList_store_rowTo rfl 51 (.tmp 6) (.tmp 12) rfl rfl (v2.heap.size) #[.int .i64 (bx1 px true), .int .i64 (bx2 px true), .int .i64 (bx1 py true), .int .i64 (bx2 py true), .int .u32 0] rfl rfl _ _ X6_4 (by kernel_rfl) rfl (by simp [Value.oneCell']) ?_
            refine wpList_store_rowTo rfl 51 (.tmp 7) (.tmp 17) rfl rfl (v3.heap.size) #[.int .i64 (bx1 px true), .int .i64 (bx2 px true), .int .i64 (bx1 py true), .int .i64 (bx2 py true), .int .u32 0] rfl rfl _ _ ((setRow_other _ _ _ _ (Ne.symm ne)).trans X7_4) (by kernel_rfl) rfl (by simp [Value.oneCell']) ?_
            have F6 := (setRow_other (v4.setRow (v2.heap.size) #[.int .i64 (bx1 px true), .int .i64 (bx2 px true), .int .i64 (bx1 py true), .int .i64 (bx2 py true), .int .u32 0]) (v3.heap.size) (v2.heap.size) #[.int .i64 (bx1 px true), .int .i64 (bx2 px true), .int .i64 (bx1 py true), .int .i64 (bx2 py true), .int .u32 0] ne).trans (setRow_heap _ _ _ #[.int .i64 (bx1 px true), .int .i64 (bx2 px true), .int .i64 (bx1 py true), .int .i64 (bx2 py true), .int .u32 0] _ _ X6_4)
            have F7 := setRow_heap (v4.setRow (v2.heap.size) #[.int .i64 (bx1 px true), .int .i64 (bx2 px true), .int .i64 (bx1 py true), .int .i64 (bx2 py true), .int .u32 0]) (v3.heap.size) _ #[.int .i64 (bx1 px true), .int .i64 (bx2 px true), .int .i64 (bx1 py true), .int .i64 (bx2 py true), .int .u32 0] _ _ ((setRow_other _ _ _ _ (Ne.symm ne)).trans X7_4)
            have FB := below_setRow (below_setRow B4 l6 #[.int .i64 (bx1 px true), .int .i64 (bx2 px true), .int .i64 (bx1 py true), .int .i64 (bx2 py true), .int .u32 0]) l7 #[.int .i64 (bx1 px true), .int .i64 (bx2 px true), .int .i64 (bx1 py true), .int .i64 (bx2 py true), .int .u32 0]
            generalize (v4.setRow (v2.heap.size) #[.int .i64 (bx1 px true), .int .i64 (bx2 px true), .int .i64 (bx1 py true), .int .i64 (bx2 py true), .int .u32 0]).setRow (v3.heap.size) #[.int .i64 (bx1 px true), .int .i64 (bx2 px true), .int .i64 (bx1 py true), .int .i64 (bx2 py true), .int .u32 0] = W9 at *
            go_wp2_with fail
            go_meet
            exact ⟨_, _, rfl, rfl, Lib.hid ne, by omega, by omega, Lib.hid (HB1.out.trans (FB.mono HB1.out.size)), Lib.hid ((FB.block _ HWL.out).trans HX1.out), Lib.hid F6, Lib.hid F7⟩
        · go_simp
          obtain ⟨v5, e5⟩ : ∃ W, W = v2.alloc (.cells #[.int .i64 0, .int .i64 0, .int .i64 0, .int .i64 0, .int .u32 0] 51) := ⟨_, rfl⟩
          have hb5 : Below v2.heap.size v2 v5 := by rw [e5]; exact (Below.refl _ _).alloc (Nat.le_refl _) _
          have B5 := B2.trans (hb5.mono B2.size)
          have X7_5 : v5.heap[v2.heap.size]? = some (.cells #[.int .i64 0, .int .i64 0, .int .i64 0, .int .i64 0, .int .u32 0] 51 (0, 0) : Obj) := by rw [e5]; exact lit0 _ _
          have hs5 : v2.heap.size < v5.heap.size := (Array.getElem?_eq_some_iff.1 X7_5).1
          rw [← e5]
          clear e5
          refine hK _ _ (fun _ _ => ⟨⟨_, B5⟩, rfl⟩) ?_
          clear hK K
          refine wpAnyT_ready [10] (by kernel_rfl) (by simp) ?_
          refine AllReadyT.cons rfl (fun K hK => ?_) AllReadyT.nil
          · go_simp
            obtain ⟨v6, e6⟩ : ∃ W, W = v5.alloc (.cells #[.int .i64 0, .int .i64 0, .int .i64 0, .int .i64 0, .int .u32 0] 51) := ⟨_, rfl⟩
            have hb6 : Below v5.heap.size v5 v6 := by rw [e6]; exact (Below.refl _ _).alloc (Nat.le_refl _) _
            have B6 := B5.trans (hb6.mono B5.size)
            have X7_6 := (hb6.block _ (Array.getElem?_eq_some_iff.1 X7_5).1).trans X7_5
            have X6_6 : v6.heap[v5.heap.size]? = some (.cells #[.int .i64 0, .int .i64 0, .int .i64 0, .int .i64 0, .int .u32 0] 51 (0, 0) : Obj) := by rw [e6]; exact lit0 _ _
            have hs6 : v5.heap.size < v6.heap.size := (Array.getElem?_eq_some_iff.1 X6_6).1
            rw [← e6]
            clear e6
            refine hK _ _ (fun _ _ => ⟨⟨_, B6⟩, rfl⟩) ?_
            clear hK K
            have ne : v5.heap.size ≠ v2.heap.size := by omega
            have l6 : w1.heap.size ≤ v5.heap.size := by omega
            have l7 : w1.heap.size ≤ v2.heap.size := by omega
            refine wpAnyT_line [12, 13] _ _ _ (by kernel_rfl) ?_
            simp only [pick, List.filterMap_cons, List.filterMap_nil, List.getElem?_toArray, List.getElem?_cons_succ, List.getElem?_cons_zero]
            refine wpList_store_rowTo rfl 51 (.tmp 6) (.tmp 12) rfl rfl (v5.heap.size) #[.int .i64 (bx1 px true), .int .i64 (bx2 px true), .int .i64 (bx1 py true), .int .i64 (bx2 py true), .int .u32 0] rfl rfl _ _ X6_6 (by kernel_rfl) rfl (by simp [Value.oneCell']) ?_
            refine wpList_store_rowTo rfl 51 (.tmp 7) (.tmp 17) rfl rfl (v2.heap.size) #[.int .i64 (bx1 px true), .int .i64 (bx2 px true), .int .i64 (bx1 py true), .int .i64 (bx2 py true), .int .u32 0] rfl rfl _ _ ((setRow_other _ _ _ _ (Ne.symm ne)).trans X7_6) (by kernel_rfl) rfl (by simp [Value.oneCell']) ?_
            have F6 := (setRow_other (v6.setRow (v5.heap.size) #[.int .i64 (bx1 px true), .int .i64 (bx2 px true), .int .i64 (bx1 py true), .int .i64 (bx2 py true), .int .u32 0]) (v2.heap.size) (v5.heap.size) #[.int .i64 (bx1 px true), .int .i64 (bx2 px true), .int .i64 (bx1 py true), .int .i64 (bx2 py true), .int .u32 0] ne).trans (setRow_heap _ _ _ #[.int .i64 (bx1 px true), .int .i64 (bx2 px true), .int .i64 (bx1 py true), .int .i64 (bx2 py true), .int .u32 0] _ _ X6_6)
            have F7 := setRow_heap (v6.setRow (v5.heap.size) #[.int .i64 (bx1 px true), .int .i64 (bx2 px true), .int .i64 (bx1 py true), .int .i64 (bx2 py true), .int .u32 0]) (v2.heap.size) _ #[.int .i64 (bx1 px true), .int .i64 (bx2 px true), .int .i64 (bx1 py true), .int .i64 (bx2 py true), .int .u32 0] _ _ ((setRow_other _ _ _ _ (Ne.symm ne)).trans X7_6)
            have FB := below_setRow (below_setRow B6 l6 #[.int .i64 (bx1 px true), .int .i64 (bx2 px true), .int .i64 (bx1 py true), .int .i64 (bx2 py true), .int .u32 0]) l7 #[.int .i64 (bx1 px true), .int .i64 (bx2 px true), .int .i64 (bx1 py true), .int .i64 (bx2 py true), .int .u32 0]
            generalize (v6.setRow (v5.heap.size) #[.int .i64 (bx1 px true), .int .i64 (bx2 px true), .int .i64 (bx1 py true), .int .i64 (bx2 py true), .int .u32 0]).setRow (v2.heap.size) #[.int .i64 (bx1 px true), .int .i64 (bx2 px true), .int .i64 (bx1 py true), .int .i64 (bx2 py true), .int .u32 0] = W9 at *
            go_wp2_with fail
            go_meet
            exact ⟨_, _, rfl, rfl, Lib.hid ne, by omega, by omega, Lib.hid (HB1.out.trans (FB.mono HB1.out.size)), Lib.hid ((FB.block _ HWL.out).trans HX1.out), Lib.hid F6, Lib.hid F7⟩
      · go_simp
        obtain ⟨v7, e7⟩ : ∃ W, W = v1.alloc (.cells #[.int .i64 0, .int .i64 0, .int .i64 0, .int .i64 0, .int .u32 0] 51) := ⟨_, rfl⟩
        have hb7 : Below v1.heap.size v1 v7 := by rw [e7]; exact (Below.refl _ _).alloc (Nat.le_refl _) _
        have B7 := B1.trans (hb7.mono B1.size)
        have X6_7 : v7.heap[v1.heap.size]? = some (.cells #[.int .i64 0, .int .i64 0, .int .i64 0, .int .i64 0, .int .u32 0] 51 (0, 0) : Obj) := by rw [e7]; exact lit0 _ _
        have hs7 : v1.heap.size < v7.heap.size := (Array.getElem?_eq_some_iff.1 X6_7).1
        rw [← e7]
        clear e7
        refine hK _ _ (fun _ _ => ⟨⟨_, B7⟩, rfl⟩) ?_
        clear hK K
        refine wpAnyT_ready [9, 11] (by kernel_rfl) (by simp) ?_
        refine AllReadyT.cons rfl (fun K hK => ?_) (AllReadyT.cons rfl (fun K hK => ?_) AllReadyT.nil)
        · refine step_call ent_cbox rfl _ _ rfl (vals := #[.int .i64 px, .int .i64 py, .int .u8 3]) rfl (CB.out _) ?_
          rintro e v8 ⟨rfl, hb8⟩
          have B8 := B7.trans (hb8.mono B7.size)
          have X6_8 := (hb8.block _ (Array.getElem?_eq_some_iff.1 X6_7).1).trans X6_7
          have hs8 := hb8.size
          refine ⟨_, rfl, ?_⟩
          refine hK _ _ (fun _ _ => ⟨⟨_, B8⟩, rfl⟩) ?_
          clear hK K
          refine wpAnyT_ready [11] (by kernel_rfl) (by simp) ?_
          refine AllReadyT.cons rfl (fun K hK => ?_) AllReadyT.nil
          · go_simp
            obtain ⟨v9, e9⟩ : ∃ W, W = v8.alloc (.cells #[.int .i64 0, .int .i64 0, .int .i64 0, .int .i64 0, .int .u32 0] 51) := ⟨_, rfl⟩
            have hb9 : Below v8.heap.size v8 v9 := by rw [e9]; exact (Below.refl _ _).alloc (Nat.le_refl _) _
            have B9 := B8.trans (hb9.mono B8.size)
            have X6_9 := (hb9.block _ (Array.getElem?_eq_some_iff.1 X6_8).1).trans X6_8
            have X7_9 : v9.heap[v8.heap.size]? = some (.cells #[.int .i64 0, .int .i64 0, .int .i64 0, .int .i64 0, .int .u32 0] 51 (0, 0) : Obj) := by rw [e9]; exact lit0 _ _
            have hs9 : v8.heap.size < v9.heap.size := (Array.getElem?_eq_some_iff.1 X7_9).1
            rw [← e9]
            clear e9
            refine hK _ _ (fun _ _ => ⟨⟨_, B9⟩, rfl⟩) ?_
            clear hK K
            have ne : v1.heap.size ≠ v8.heap.size := by omega
            have l6 : w1.heap.size ≤ v1.heap.size := by omega
            have l7 : w1.heap.size ≤ v8.heap.size := by omega
            refine wpAnyT_line [12, 13] _ _ _ (by kernel_rfl) ?_
            simp only [pick, List.filterMap_cons, List.filterMap_nil, List.getElem?_toArray, List.getElem?_cons_succ, List.getElem?_cons_zero]
            refine wpList_store_rowTo rfl 51 (.tmp 6) (.tmp 12) rfl rfl (v1.heap.size) #[.int .i64 (bx1 px true), .int .i64 (bx2 px true), .int .i64 (bx1 py true), .int .i64 (bx2 py true), .int .u32 0] rfl rfl _ _ X6_9 (by kernel_rfl) rfl (by simp [Value.oneCell']) ?_
            refine wpList_store_rowTo rfl 51 (.tmp 7) (.tmp 17) rfl rfl (v8.heap.size) #[.int .i64 (bx1 px true), .int .i64 (bx2 px true), .int .i64 (bx1 py true), .int .i64 (bx2 py true), .int .u32 0] rfl rfl _ _ ((setRow_other _ _ _ _ (Ne.symm ne)).trans X7_9) (by kernel_rfl) rfl (by simp [Value.oneCell']) ?_
            have F6 := (setRow_other (v9.setRow (v1.heap.size) #[.int .i64 (bx1 px true), .int .i64 (bx2 px true), .int .i64 (bx1 py true), .int .i64 (bx2 py true), .int .u32 0]) (v8.heap.size) (v1.heap.size) #[.int .i64 (bx1 px true), .int .i64 (bx2 px true), .int .i64 (bx1 py true), .int .i64 (bx2 py true), .int .u32 0] ne).trans (setRow_heap _ _ _ #[.int .i64 (bx1 px true), .int .i64 (bx2 px true), .int .i64 (bx1 py true), .int .i64 (bx2 py true), .int .u32 0] _ _ X6_9)
            have F7 := setRow_heap (v9.setRow (v1.heap.size) #[.int .i64 (bx1 px true), .int .i64 (bx2 px true), .int .i64 (bx1 py true), .int .i64 (bx2 py true), .int .u32 0]) (v8.heap.size) _ #[.int .i64 (bx1 px true), .int .i64 (bx2 px true), .int .i64 (bx1 py true), .int .i64 (bx2 py true), .int .u32 0] _ _ ((setRow_other _ _ _ _ (Ne.symm ne)).trans X7_9)
            have FB := below_setRow (below_setRow B9 l6 #[.int .i64 (bx1 px true), .int .i64 (bx2 px true), .int .i64 (bx1 py true), .int .i64 (bx2 py true), .int .u32 0]) l7 #[.int .i64 (bx1 px true), .int .i64 (bx2 px true), .int .i64 (bx1 py true), .int .i64 (bx2 py true), .int .u32 0]
            generalize (v9.setRow (v1.heap.size) #[.int .i64 (bx1 px true), .int .i64 (bx2 px true), .int .i64 (bx1 py true), .int .i64 (bx2 py true), .int .u32 0]).setRow (v8.heap.size) #[.int .i64 (bx1 px true), .int .i64 (bx2 px true), .int .i64 (bx1 py true), .int .i64 (bx2 py true), .int .u32 0] = W9 at *
            go_wp2_with fail
            go_meet
            exact ⟨_, _, rfl, rfl, Lib.hid ne, by omega, by omega, Lib.hid (HB1.out.trans (FB.mono HB1.out.size)), Lib.hid ((FB.block _ HWL.out).trans HX1.out), Lib.hid F6, Lib.hid F7⟩
        · go_simp
          obtain ⟨v10, e10⟩ : ∃ W, W = v7.alloc (.cells #[.int .i64 0, .int .i64 0, .int .i64 0, .int .i64 0, .int .u32 0] 51) := ⟨_, rfl⟩
          have hb10 : Below v7.heap.size v7 v10 := by rw [e10]; exact (Below.refl _ _).alloc (Nat.le_refl _) _
          have B10 := B7.trans (hb10.mono B7.size)
          have X6_10 := (hb10.block _ (Array.getElem?_eq_some_iff.1 X6_7).1).trans X6_7
          have X7_10 : v10.heap[v7.heap.size]? = some (.cells #[.int .i64 0, .int .i64 0, .int .i64 0, .int .i64 0, .int .u32 0] 51 (0, 0) : Obj) := by rw [e10]; exact lit0 _ _
          have hs10 : v7.heap.size < v10.heap.size := (Array.getElem?_eq_some_iff.1 X7_10).1
          rw [← e10]
          clear e10
          refine hK _ _ (fun _ _ => ⟨⟨_, B10⟩, rfl⟩) ?_
          clear hK K
          refine wpAnyT_ready [9] (by kernel_rfl) (by simp) ?_
          refine AllReadyT.cons rfl (fun K hK => ?_) AllReadyT.nil
          · refine step_call ent_cbox rfl _ _ rfl (vals := #[.int .i64 px, .int .i64 py, .int .u8 3]) rfl (CB.out _) ?_
            rintro e v11 ⟨rfl, hb11⟩
            have B11 := B10.trans (hb11.mono B10.size)
            have X6_11 := (hb11.block _ (Array.getElem?_eq_some_iff.1 X6_10).1).trans X6_10
            have X7_11 := (hb11.block _ (Array.getElem?_eq_some_iff.1 X7_10).1).trans X7_10
            have hs11 := hb11.size
            refine ⟨_, rfl, ?_⟩
            refine hK _ _ (fun _ _ => ⟨⟨_, B11⟩, rfl⟩) ?_
            clear hK K
            have ne : v1.heap.size ≠ v7.heap.size := by omega
            have l6 : w1.heap.size ≤ v1.heap.size := by omega
            have l7 : w1.heap.size ≤ v7.heap.size := by omega
            refine wpAnyT_line [12, 13] _ _ _ (by kernel_rfl) ?_
            simp only [pick, List.filterMap_cons, List.filterMap_nil, List.getElem?_toArray, List.getElem?_cons_succ, List.getElem?_cons_zero]
            refine wpList_store_rowTo rfl 51 (.tmp 6) (.tmp 12) rfl rfl (v1.heap.size) #[.int .i64 (bx1 px true), .int .i64 (bx2 px true), .int .i64 (bx1 py true), .int .i64 (bx2 py true), .int .u32 0] rfl rfl _ _ X6_11 (by kernel_rfl) rfl (by simp [Value.oneCell']) ?_
            refine wpList_store_rowTo rfl 51 (.tmp 7) (.tmp 17) rfl rfl (v7.heap.size) #[.int .i64 (bx1 px true), .int .i64 (bx2 px true), .int .i64 (bx1 py true), .int .i64 (bx2 py true), .int .u32 0] rfl rfl _ _ ((setRow_other _ _ _ _ (Ne.symm ne)).trans X7_11) (by kernel_rfl) rfl (by simp [Value.oneCell']) ?_
            have F6 := (setRow_other (v11.setRow (v1.heap.size) #[.int .i64 (bx1 px true), .int .i64 (bx2 px true), .int .i64 (bx1 py true), .int .i64 (bx2 py true), .int .u32 0]) (v7.heap.size) (v1.heap.size) #[.int .i64 (bx1 px true), .int .i64 (bx2 px true), .int .i64 (bx1 py true), .int .i64 (bx2 py true), .int .u32 0] ne).trans (setRow_heap _ _ _ #[.int .i64 (bx1 px true), .int .i64 (bx2 px true), .int .i64 (bx1 py true), .int .i64 (bx2 py true), .int .u32 0] _ _ X6_11)
            have F7 := setRow_heap (v11.setRow (v1.heap.size) #[.int .i64 (bx1 px true), .int .i64 (bx2 px true), .int .i64 (bx1 py true), .int .i64 (bx2 py true), .int .u32 0]) (v7.heap.size) _ #[.int .i64 (bx1 px true), .int .i64 (bx2 px true), .int .i64 (bx1 py true), .int .i64 (bx2 py true), .int .u32 0] _ _ ((setRow_other _ _ _ _ (Ne.symm ne)).trans X7_11)
            have FB := below_setRow (below_setRow B11 l6 #[.int .i64 (bx1 px true), .int .i64 (bx2 px true), .int .i64 (bx1 py true), .int .i64 (bx2 py true), .int .u32 0]) l7 #[.int .i64 (bx1 px true), .int .i64 (bx2 px true), .int .i64 (bx1 py true), .int .i64 (bx2 py true), .int .u32 0]
            generalize (v11.setRow (v1.heap.size) #[.int .i64 (bx1 px true), .int .i64 (bx2 px true), .int .i64 (bx1 py true), .int .i64 (bx2 py true), .int .u32 0]).setRow (v7.heap.size) #[.int .i64 (bx1 px true), .int .i64 (bx2 px true), .int .i64 (bx1 py true), .int .i64 (bx2 py true), .int .u32 0] = W9 at *
            go_wp2_with fail
            go_meet
            exact ⟨_, _, rfl, rfl, Lib.hid ne, by omega, by omega, Lib.hid (HB1.out.trans (FB.mono HB1.out.size)), Lib.hid ((FB.block _ HWL.out).trans HX1.out), Lib.hid F6, Lib.hid F7⟩
      · go_simp
        obtain ⟨v12, e12⟩ : ∃ W, W = v1.alloc (.cells #[.int .i64 0, .int .i64 0, .int .i64 0, .int .i64 0, .int .u32 0] 51) := ⟨_, rfl⟩
        have hb12 : Below v1.heap.size v1 v12 := by rw [e12]; exact (Below.refl _ _).alloc (Nat.le_refl _) _
        have B12 := B1.trans (hb12.mono B1.size)
        have X7_12 : v12.heap[v1.heap.size]? = some (.cells #[.int .i64 0, .int .i64 0, .int .i64 0, .int .i64 0, .int .u32 0] 51 (0, 0) : Obj) := by rw [e12]; exact lit0 _ _
        have hs12 : v1.heap.size < v12.heap.size := (Array.getElem?_eq_some_iff.1 X7_12).1
        rw [← e12]
        clear e12
        refine hK _ _ (fun _ _ => ⟨⟨_, B12⟩, rfl⟩) ?_
        clear hK K
        refine wpAnyT_ready [9, 10] (by kernel_rfl) (by simp) ?_
        refine AllReadyT.cons rfl (fun K hK => ?_) (AllReadyT.cons rfl (fun K hK => ?_) AllReadyT.nil)
        · refine step_call ent_cbox rfl _ _ rfl (vals := #[.int .i64 px, .int .i64 py, .int .u8 3]) rfl (CB.out _) ?_
          rintro e v13 ⟨rfl, hb13⟩
          have B13 := B12.trans (hb13.mono B12.size)
          have X7_13 := (hb13.block _ (Array.getElem?_eq_some_iff.1 X7_12).1).trans X7_12
          have hs13 := hb13.size
          refine ⟨_, rfl, ?_⟩
          refine hK _ _ (fun _ _ => ⟨⟨_, B13⟩, rfl⟩) ?_
          clear hK K
          refine wpAnyT_ready [10] (by kernel_rfl) (by simp) ?_
          refine AllReadyT.cons rfl (fun K hK => ?_) AllReadyT.nil
          · go_simp
            obtain ⟨v14, e14⟩ : ∃ W, W = v13.alloc (.cells #[.int .i64 0, .int .i64 0, .int .i64 0, .int .i64 0, .int .u32 0] 51) := ⟨_, rfl⟩
            have hb14 : Below v13.heap.size v13 v14 := by rw [e14]; exact (Below.refl _ _).alloc (Nat.le_refl _) _
            have B14 := B13.trans (hb14.mono B13.size)
            have X7_14 := (hb14.block _ (Array.getElem?_eq_some_iff.1 X7_13).1).trans X7_13
            have X6_14 : v14.heap[v13.heap.size]? = some (.cells #[.int .i64 0, .int .i64 0, .int .i64 0, .int .i64 0, .int .u32 0] 51 (0, 0) : Obj) := by rw [e14]; exact lit0 _ _
            have hs14 : v13.heap.size < v14.heap.size := (Array.getElem?_eq_some_iff.1 X6_14).1
            rw [← e14]
            clear e14
            refine hK _ _ (fun _ _ => ⟨⟨_, B14⟩, rfl⟩) ?_
            clear hK K
            have ne : v13.heap.size ≠ v1.heap.size := by omega
            have l6 : w1.heap.size ≤ v13.heap.size := by omega
            have l7 : w1.heap.size ≤ v1.heap.size := by omega
            refine wpAnyT_line [12, 13] _ _ _ (by kernel_rfl) ?_
            simp only [pick, List.filterMap_cons, List.filterMap_nil, List.getElem?_toArray, List.getElem?_cons_succ, List.getElem?_cons_zero]
            refine wpList_store_rowTo rfl 51 (.tmp 6) (.tmp 12) rfl rfl (v13.heap.size) #[.int .i64 (bx1 px true), .int .i64 (bx2 px true), .int .i64 (bx1 py true), .int .i64 (bx2 py true), .int .u32 0] rfl rfl _ _ X6_14 (by kernel_rfl) rfl (by simp [Value.oneCell']) ?_
            refine wpList_store_rowTo rfl 51 (.tmp 7) (.tmp 17) rfl rfl (v1.heap.size) #[.int .i64 (bx1 px true), .int .i64 (bx2 px true), .int .i64 (bx1 py true), .int .i64 (bx2 py true), .int .u32 0] rfl rfl _ _ ((setRow_other _ _ _ _ (Ne.symm ne)).trans X7_14) (by kernel_rfl) rfl (by simp [Value.oneCell']) ?_
            have F6 := (setRow_other (v14.setRow (v13.heap.size) #[.int .i64 (bx1 px true), .int .i64 (bx2 px true), .int .i64 (bx1 py true), .int .i64 (bx2 py true), .int .u32 0]) (v1.heap.size) (v13.heap.size) #[.int .i64 (bx1 px true), .int .i64 (bx2 px true), .int .i64 (bx1 py true), .int .i64 (bx2 py true), .int .u32 0] ne).trans (setRow_heap _ _ _ #[.int .i64 (bx1 px true), .int .i64 (bx2 px true), .int .i64 (bx1 py true), .int .i64 (bx2 py true), .int .u32 0] _ _ X6_14)
            have F7 := setRow_heap (v14.setRow (v13.heap.size) #[.int .i64 (bx1 px true), .int .i64 (bx2 px true), .int .i64 (bx1 py true), .int .i64 (bx2 py true), .int .u32 0]) (v1.heap.size) _ #[.int .i64 (bx1 px true), .int .i64 (bx2 px true), .int .i64 (bx1 py true), .int .i64 (bx2 py true), .int .u32 0] _ _ ((setRow_other _ _ _ _ (Ne.symm ne)).trans X7_14)
            have FB := below_setRow (below_setRow B14 l6 #[.int .i64 (bx1 px true), .int .i64 (bx2 px true), .int .i64 (bx1 py true), .int .i64 (bx2 py true), .int .u32 0]) l7 #[.int .i64 (bx1 px true), .int .i64 (bx2 px true), .int .i64 (bx1 py true), .int .i64 (bx2 py true), .int .u32 0]
            generalize (v14.setRow (v13.heap.size) #[.int .i64 (bx1 px true), .int .i64 (bx2 px true), .int .i64 (bx1 py true), .int .i64 (bx2 py true), .int .u32 0]).setRow (v1.heap.size) #[.int .i64 (bx1 px true), .int .i64 (bx2 px true), .int .i64 (bx1 py true), .int .i64 (bx2 py true), .int .u32 0] = W9 at *
            go_wp2_with fail
            go_meet
            exact ⟨_, _, rfl, rfl, Lib.hid ne, by omega, by omega, Lib.hid (HB1.out.trans (FB.mono HB1.out.size)), Lib.hid ((FB.block _ HWL.out).trans HX1.out), Lib.hid F6, Lib.hid F7⟩
        · go_simp
          obtain ⟨v15, e15⟩ : ∃ W, W = v12.alloc (.cells #[.int .i64 0, .int .i64 0, .int .i64 0, .int .i64 0, .int .u32 0] 51) := ⟨_, rfl⟩
          have hb15 : Below v12.heap.size v12 v15 := by rw [e15]; exact (Below.refl _ _).alloc (Nat.le_refl _) _
          have B15 := B12.trans (hb15.mono B12.size)
          have X7_15 := (hb15.block _ (Array.getElem?_eq_some_iff.1 X7_12).1).trans X7_12
          have X6_15 : v15.heap[v12.heap.size]? = some (.cells #[.int .i64 0, .int .i64 0, .int .i64 0, .int .i64 0, .int .u32 0] 51 (0, 0) : Obj) := by rw [e15]; exact lit0 _ _
          have hs15 : v12.heap.size < v15.heap.size := (Array.getElem?_eq_some_iff.1 X6_15).1
          rw [← e15]
          clear e15
          refine hK _ _ (fun _ _ => ⟨⟨_, B15⟩, rfl⟩) ?_
          clear hK K
          refine wpAnyT_ready [9] (by kernel_rfl) (by simp) ?_
          refine AllReadyT.cons rfl (fun K hK => ?_) AllReadyT.nil
          · refine step_call ent_cbox rfl _ _ rfl (vals := #[.int .i64 px, .int .i64 py, .int .u8 3]) rfl (CB.out _) ?_
            rintro e v16 ⟨rfl, hb16⟩
            have B16 := B15.trans (hb16.mono B15.size)
            have X7_16 := (hb16.block _ (Array.getElem?_eq_some_iff.1 X7_15).1).trans X7_15
            have X6_16 := (hb16.block _ (Array.getElem?_eq_some_iff.1 X6_15).1).trans X6_15
            have hs16 := hb16.size
            refine ⟨_, rfl, ?_⟩
            refine hK _ _ (fun _ _ => ⟨⟨_, B16⟩, rfl⟩) ?_
            clear hK K
            have ne : v12.heap.size ≠ v1.heap.size := by omega
            have l6 : w1.heap.size ≤ v12.heap.size := by omega
            have l7 : w1.heap.size ≤ v1.heap.size := by omega
            refine wpAnyT_line [12, 13] _ _ _ (by kernel_rfl) ?_
            simp only [pick, List.filterMap_cons, List.filterMap_nil, List.getElem?_toArray, List.getElem?_cons_succ, List.getElem?_cons_zero]
            refine wpList_store_rowTo rfl 51 (.tmp 6) (.tmp 12) rfl rfl (v12.heap.size) #[.int .i64 (bx1 px true), .int .i64 (bx2 px true), .int .i64 (bx1 py true), .int .i64 (bx2 py true), .int .u32 0] rfl rfl _ _ X6_16 (by kernel_rfl) rfl (by simp [Value.oneCell']) ?_
            refine wpList_store_rowTo rfl 51 (.tmp 7) (.tmp 17) rfl rfl (v1.heap.size) #[.int .i64 (bx1 px true), .int .i64 (bx2 px true), .int .i64 (bx1 py true), .int .i64 (bx2 py true), .int .u32 0] rfl rfl _ _ ((setRow_other _ _ _ _ (Ne.symm ne)).trans X7_16) (by kernel_rfl) rfl (by simp [Value.oneCell']) ?_
            have F6 := (setRow_other (v16.setRow (v12.heap.size) #[.int .i64 (bx1 px true), .int .i64 (bx2 px true), .int .i64 (bx1 py true), .int .i64 (bx2 py true), .int .u32 0]) (v1.heap.size) (v12.heap.size) #[.int .i64 (bx1 px true), .int .i64 (bx2 px true), .int .i64 (bx1 py true), .int .i64 (bx2 py true), .int .u32 0] ne).trans (setRow_heap _ _ _ #[.int .i64 (bx1 px true), .int .i64 (bx2 px true), .int .i64 (bx1 py true), .int .i64 (bx2 py true), .int .u32 0] _ _ X6_16)
            have F7 := setRow_heap (v16.setRow (v12.heap.size) #[.int .i64 (bx1 px true), .int .i64 (bx2 px true), .int .i64 (bx1 py true), .int .i64 (bx2 py true), .int .u32 0]) (v1.heap.size) _ #[.int .i64 (bx1 px true), .int .i64 (bx2 px true), .int .i64 (bx1 py true), .int .i64 (bx2 py true), .int .u32 0] _ _ ((setRow_other _ _ _ _ (Ne.symm ne)).trans X7_16)
            have FB := below_setRow (below_setRow B16 l6 #[.int .i64 (bx1 px true), .int .i64 (bx2 px true), .int .i64 (bx1 py true), .int .i64 (bx2 py true), .int .u32 0]) l7 #[.int .i64 (bx1 px true), .int .i64 (bx2 px true), .int .i64 (bx1 py true), .int .i64 (bx2 py true), .int .u32 0]
            generalize (v16.setRow (v12.heap.size) #[.int .i64 (bx1 px true), .int .i64 (bx2 px true), .int .i64 (bx1 py true), .int .i64 (bx2 py true), .int .u32 0]).setRow (v1.heap.size) #[.int .i64 (bx1 px true), .int .i64 (bx2 px true), .int .i64 (bx1 py true), .int .i64 (bx2 py true), .int .u32 0] = W9 at *
            go_wp2_with fail
            go_meet
            exact ⟨_, _, rfl, rfl, Lib.hid ne, by omega, by omega, Lib.hid (HB1.out.trans (FB.mono HB1.out.size)), Lib.hid ((FB.block _ HWL.out).trans HX1.out), Lib.hid F6, Lib.hid F7⟩
    · go_simp
      obtain ⟨v17, e17⟩ : ∃ W, W = w0.alloc (.cells #[.int .i64 0, .int .i64 0, .int .i64 0, .int .i64 0, .int .u32 0] 51) := ⟨_, rfl⟩
      have hb17 : Below w0.heap.size w0 v17 := by rw [e17]; exact (Below.refl _ _).alloc (Nat.le_refl _) _
      have B17 := B0.trans (hb17.mono B0.size)
      have X6_17 : v17.heap[w0.heap.size]? = some (.cells #[.int .i64 0, .int .i64 0, .int .i64 0, .int .i64 0, .int .u32 0] 51 (0, 0) : Obj) := by rw [e17]; exact lit0 _ _
      have hs17 : w0.heap.size < v17.heap.size := (Array.getElem?_eq_some_iff.1 X6_17).1
      rw [← e17]
      clear e17
      refine hK _ _ (fun _ _ => ⟨⟨_, B17⟩, rfl⟩) ?_
      clear hK K
      refine wpAnyT_ready [4, 11] (by kernel_rfl) (by simp) ?_
      refine AllReadyT.cons rfl (fun K hK => ?_) (AllReadyT.cons rfl (fun K hK => ?_) AllReadyT.nil)
      · refine step_call ent_cbox rfl _ _ rfl (vals := #[.int .i64 px, .int .i64 py, .int .u8 3]) rfl (CB.out _) ?_
        rintro e v18 ⟨rfl, hb18⟩
        have B18 := B17.trans (hb18.mono B17.size)
        have X6_18 := (hb18.block _ (Array.getElem?_eq_some_iff.1 X6_17).1).trans X6_17
        have hs18 := hb18.size
        refine ⟨_, rfl, ?_⟩
        refine hK _ _ (fun _ _ => ⟨⟨_, B18⟩, rfl⟩) ?_
        clear hK K
        refine wpAnyT_ready [9, 11] (by kernel_rfl) (by simp) ?_
        refine AllReadyT.cons rfl (fun K hK => ?_) (AllReadyT.cons rfl (fun K hK => ?_) AllReadyT.nil)
        · refine step_call ent_cbox rfl _ _ rfl (vals := #[.int .i64 px, .int .i64 py, .int .u8 3]) rfl (CB.out _) ?_
          rintro e v19 ⟨rfl, hb19⟩
          have B19 := B18.trans (hb19.mono B18.size)
          have X6_19 := (hb19.block _ (Array.getElem?_eq_some_iff.1 X6_18).1).trans X6_18
          have hs19 := hb19.size
          refine ⟨_, rfl, ?_⟩
          refine hK _ _ (fun _ _ => ⟨⟨_, B19⟩, rfl⟩) ?_
          clear hK K
          refine wpAnyT_ready [11] (by kernel_rfl) (by simp) ?_
          refine AllReadyT.cons rfl (fun K hK => ?_) AllReadyT.nil
          · go_simp
            obtain ⟨v20, e20⟩ : ∃ W, W = v19.alloc (.cells #[.int .i64 0, .int .i64 0, .int .i64 0, .int .i64 0, .int .u32 0] 51) := ⟨_, rfl⟩
            have hb20 : Below v19.heap.size v19 v20 := by rw [e20]; exact (Below.refl _ _).alloc (Nat.le_refl _) _
            have B20 := B19.trans (hb20.mono B19.size)
            have X6_20 := (hb20.block _ (Array.getElem?_eq_some_iff.1 X6_19).1).trans X6_19
            have X7_20 : v20.heap[v19.heap.size]? = some (.cells #[.int .i64 0, .int .i64 0, .int .i64 0, .int .i64 0, .int .u32 0] 51 (0, 0) : Obj) := by rw [e20]; exact lit0 _ _
            have hs20 : v19.heap.size < v20.heap.size := (Array.getElem?_eq_some_iff.1 X7_20).1
            rw [← e20]
            clear e20
            refine hK _ _ (fun _ _ => ⟨⟨_, B20⟩, rfl⟩) ?_
            clear hK K
            have ne : w0.heap.size ≠ v19.heap.size := by omega
            have l6 : w1.heap.size ≤ w0.heap.size := by omega
            have l7 : w1.heap.size ≤ v19.heap.size := by omega
            refine wpAnyT_line [12, 13] _ _ _ (by kernel_rfl) ?_
            simp only [pick, List.filterMap_cons, List.filterMap_nil, List.getElem?_toArray, List.getElem?_cons_succ, List.getElem?_cons_zero]
            refine wpList_store_rowTo rfl 51 (.tmp 6) (.tmp 12) rfl rfl (w0.heap.size) #[.int .i64 (bx1 px true), .int .i64 (bx2 px true), .int .i64 (bx1 py true), .int .i64 (bx2 py true), .int .u32 0] rfl rfl _ _ X6_20 (by kernel_rfl) rfl (by simp [Value.oneCell']) ?_
            refine wpList_store_rowTo rfl 51 (.tmp 7) (.tmp 17) rfl rfl (v19.heap.size) #[.int .i64 (bx1 px true), .int .i64 (bx2 px true), .int .i64 (bx1 py true), .int .i64 (bx2 py true), .int .u32 0] rfl rfl _ _ ((setRow_other _ _ _ _ (Ne.symm ne)).trans X7_20) (by kernel_rfl) rfl (by simp [Value.oneCell']) ?_
            have F6 := (setRow_other (v20.setRow (w0.heap.size) #[.int .i64 (bx1 px true), .int .i64 (bx2 px true), .int .i64 (bx1 py true), .int .i64 (bx2 py true), .int .u32 0]) (v19.heap.size) (w0.heap.size) #[.int .i64 (bx1 px true), .int .i64 (bx2 px true), .int .i64 (bx1 py true), .int .i64 (bx2 py true), .int .u32 0] ne).trans (setRow_heap _ _ _ #[.int .i64 (bx1 px true), .int .i64 (bx2 px true), .int .i64 (bx1 py true), .int .i64 (bx2 py true), .int .u32 0] _ _ X6_20)
            have F7 := setRow_heap (v20.setRow (w0.heap.size) #[.int .i64 (bx1 px true), .int .i64 (bx2 px true), .int .i64 (bx1 py true), .int .i64 (bx2 py true), .int .u32 0]) (v19.heap.size) _ #[.int .i64 (bx1 px true), .int .i64 (bx2 px true), .int .i64 (bx1 py true), .int .i64 (bx2 py true), .int .u32 0] _ _ ((setRow_other _ _ _ _ (Ne.symm ne)).trans X7_20)
            have FB := below_setRow (below_setRow B20 l6 #[.int .i64 (bx1 px true), .int .i64 (bx2 px true), .int .i64 (bx1 py true), .int .i64 (bx2 py true), .int .u32 0]) l7 #[.int .i64 (bx1 px true), .int .i64 (bx2 px true), .int .i64 (bx1 py true), .int .i64 (bx2 py true), .int .u32 0]
            generalize (v20.setRow (w0.heap.size) #[.int .i64 (bx1 px true), .int .i64 (bx2 px true), .int .i64 (bx1 py true), .int .i64 (bx2 py true), .int .u32 0]).setRow (v19.heap.size) #[.int .i64 (bx1 px true), .int .i64 (bx2 px true), .int .i64 (bx1 py true), .int .i64 (bx2 py true), .int .u32 0] = W9 at *
            go_wp2_with fail
            go_meet
            exact ⟨_, _, rfl, rfl, Lib.hid ne, by omega, by omega, Lib.hid (HB1.out.trans (FB.mono HB1.out.size)), Lib.hid ((FB.block _ HWL.out).trans HX1.out), Lib.hid F6, Lib.hid F7⟩
        · go_simp
          obtain ⟨v21, e21⟩ : ∃ W, W = v18.alloc (.cells #[.int .i64 0, .int .i64 0, .int .i64 0, .int .i64 0, .int .u32 0] 51) := ⟨_, rfl⟩
          have hb21 : Below v18.heap.size v18 v21 := by rw [e21]; exact (Below.refl _ _).alloc (Nat.le_refl _) _
          have B21 := B18.trans (hb21.mono B18.size)
          have X6_21 := (hb21.block _ (Array.getElem?_eq_some_iff.1 X6_18).1).trans X6_18
          have X7_21 : v21.heap[v18.heap.size]? = some (.cells #[.int .i64 0, .int .i64 0, .int .i64 0, .int .i64 0, .int .u32 0] 51 (0, 0) : Obj) := by rw [e21]; exact lit0 _ _
          have hs21 : v18.heap.size < v21.heap.size := (Array.getElem?_eq_some_iff.1 X7_21).1
          rw [← e21]
          clear e21
          refine hK _ _ (fun _ _ => ⟨⟨_, B21⟩, rfl⟩) ?_
          clear hK K
          refine wpAnyT_ready [9] (by kernel_rfl) (by simp) ?_
          refine AllReadyT.cons rfl (fun K hK => ?_) AllReadyT.nil
          · refine step_call ent_cbox rfl _ _ rfl (vals := #[.int .i64 px, .int .i64 py, .int .u8 3]) rfl (CB.out _) ?_
            rintro e v22 ⟨rfl, hb22⟩
            have B22 := B21.trans (hb22.mono B21.size)
            have X6_22 := (hb22.block _ (Array.getElem?_eq_some_iff.1 X6_21).1).trans X6_21
            have X7_22 := (hb22.block _ (Array.getElem?_eq_some_iff.1 X7_21).1).trans X7_21
            have hs22 := hb22.size
            refine ⟨_, rfl, ?_⟩
            refine hK _ _ (fun _ _ => ⟨⟨_, B22⟩, rfl⟩) ?_
            clear hK K
            have ne : w0.heap.size ≠ v18.heap.size := by omega
            have l6 : w1.heap.size ≤ w0.heap.size := by omega
            have l7 : w1.heap.size ≤ v18.heap.size := by omega
            refine wpAnyT_line [12, 13] _ _ _ (by kernel_rfl) ?_
            simp only [pick, List.filterMap_cons, List.filterMap_nil, List.getElem?_toArray, List.getElem?_cons_succ, List.getElem?_cons_zero]
            refine wpList_store_rowTo rfl 51 (.tmp 6) (.tmp 12) rfl rfl (w0.heap.size) #[.int .i64 (bx1 px true), .int .i64 (bx2 px true), .int .i64 (bx1 py true), .int .i64 (bx2 py true), .int .u32 0] rfl rfl _ _ X6_22 (by kernel_rfl) rfl (by simp [Value.oneCell']) ?_
            refine wpList_store_rowTo rfl 51 (.tmp 7) (.tmp 17) rfl rfl (v18.heap.size) #[.int .i64 (bx1 px true), .int .i64 (bx2 px true), .int .i64 (bx1 py true), .int .i64 (bx2 py true), .int .u32 0] rfl rfl _ _ ((setRow_other _ _ _ _ (Ne.symm ne)).trans X7_22) (by kernel_rfl) rfl (by simp [Value.oneCell']) ?_
            have F6 := (setRow_other (v22.setRow (w0.heap.size) #[.int .i64 (bx1 px true), .int .i64 (bx2 px true), .int .i64 (bx1 py true), .int .i64 (bx2 py true), .int .u32 0]) (v18.heap.size) (w0.heap.size) #[.int .i64 (bx1 px true), .int .i64 (bx2 px true), .int .i64 (bx1 py true), .int .i64 (bx2 py true), .int .u32 0] ne).trans (setRow_heap _ _ _ #[.int .i64 (bx1 px true), .int .i64 (bx2 px true), .int .i64 (bx1 py true), .int .i64 (bx2 py true), .int .u32 0] _ _ X6_22)
            have F7 := setRow_heap (v22.setRow (w0.heap.size) #[.int .i64 (bx1 px true), .int .i64 (bx2 px true), .int .i64 (bx1 py true), .int .i64 (bx2 py true), .int .u32 0]) (v18.heap.size) _ #[.int .i64 (bx1 px true), .int .i64 (bx2 px true), .int .i64 (bx1 py true), .int .i64 (bx2 py true), .int .u32 0] _ _ ((setRow_other _ _ _ _ (Ne.symm ne)).trans X7_22)
            have FB := below_setRow (below_setRow B22 l6 #[.int .i64 (bx1 px true), .int .i64 (bx2 px true), .int .i64 (bx1 py true), .int .i64 (bx2 py true), .int .u32 0]) l7 #[.int .i64 (bx1 px true), .int .i64 (bx2 px true), .int .i64 (bx1 py true), .int .i64 (bx2 py true), .int .u32 0]
            generalize (v22.setRow (w0.heap.size) #[.int .i64 (bx1 px true), .int .i64 (bx2 px true), .int .i64 (bx1 py true), .int .i64 (bx2 py true), .int .u32 0]).setRow (v18.heap.size) #[.int .i64 (bx1 px true), .int .i64 (bx2 px true), .int .i64 (bx1 py true), .int .i64 (bx2 py true), .int .u32 0] = W9 at *
            go_wp2_with fail
            go_meet
            exact ⟨_, _, rfl, rfl, Lib.hid ne, by omega, by omega, Lib.hid (HB1.out.trans (FB.mono HB1.out.size)), Lib.hid ((FB.block _ HWL.out).trans HX1.out), Lib.hid F6, Lib.hid F7⟩
      · go_simp
        obtain ⟨v23, e23⟩ : ∃ W, W = v17.alloc (.cells #[.int .i64 0, .int .i64 0, .int .i64 0, .int .i64 0, .int .u32 0] 51) := ⟨_, rfl⟩
        have hb23 : Below v17.heap.size v17 v23 := by rw [e23]; exact (Below.refl _ _).alloc (Nat.le_refl _) _
        have B23 := B17.trans (hb23.mono B17.size)
        have X6_23 := (hb23.block _ (Array.getElem?_eq_some_iff.1 X6_17).1).trans X6_17
        have X7_23 : v23.heap[v17.heap.size]? = some (.cells #[.int .i64 0, .int .i64 0, .int .i64 0, .int .i64 0, .int .u32 0] 51 (0, 0) : Obj) := by rw [e23]; exact lit0 _ _
        have hs23 : v17.heap.size < v23.heap.size := (Array.getElem?_eq_some_iff.1 X7_23).1
        rw [← e23]
        clear e23
        refine hK _ _ (fun _ _ => ⟨⟨_, B23⟩, rfl⟩) ?_
        clear hK K
        refine wpAnyT_ready [4] (by kernel_rfl) (by simp) ?_
        refine AllReadyT.cons rfl (fun K hK => ?_) AllReadyT.nil
        · refine step_call ent_cbox rfl _ _ rfl (vals := #[.int .i64 px, .int .i64 py, .int .u8 3]) rfl (CB.out _) ?_
          rintro e v24 ⟨rfl, hb24⟩
          have B24 := B23.trans (hb24.mono B23.size)
          have X6_24 := (hb24.block _ (Array.getElem?_eq_some_iff.1 X6_23).1).trans X6_23
          have X7_24 := (hb24.block _ (Array.getElem?_eq_some_iff.1 X7_23).1).trans X7_23
          have hs24 := hb24.size
          refine ⟨_, rfl, ?_⟩
          refine hK _ _ (fun _ _ => ⟨⟨_, B24⟩, rfl⟩) ?_
          clear hK K
          refine wpAnyT_ready [9] (by kernel_rfl) (by simp) ?_
          refine AllReadyT.cons rfl (fun K hK => ?_) AllReadyT.nil
          · refine step_call ent_cbox rfl _ _ rfl (vals := #[.int .i64 px, .int .i64 py, .int .u8 3]) rfl (CB.out _) ?_
            rintro e v25 ⟨rfl, hb25⟩
            have B25 := B24.trans (hb25.mono B24.size)
            have X6_25 := (hb25.block _ (Array.getElem?_eq_some_iff.1 X6_24).1).trans X6_24
            have X7_25 := (hb25.block _ (Array.getElem?_eq_some_iff.1 X7_24).1).trans X7_24
            have hs25 := hb25.size
            refine ⟨_, rfl, ?_⟩
            refine hK _ _ (fun _ _ => ⟨⟨_, B25⟩, rfl⟩) ?_
            clear hK K
            have ne : w0.heap.size ≠ v17.heap.size := by omega
            have l6 : w1.heap.size ≤ w0.heap.size := by omega
            have l7 : w1.heap.size ≤ v17.heap.size := by omega
            refine wpAnyT_line [12, 13] _ _ _ (by kernel_rfl) ?_
            simp only [pick, List.filterMap_cons, List.filterMap_nil, List.getElem?_toArray, List.getElem?_cons_succ, List.getElem?_cons_zero]
            refine wpList_store_rowTo rfl 51 (.tmp 6) (.tmp 12) rfl rfl (w0.heap.size) #[.int .i64 (bx1 px true), .int .i64 (bx2 px true), .int .i64 (bx1 py true), .int .i64 (bx2 py true), .int .u32 0] rfl rfl _ _ X6_25 (by kernel_rfl) rfl (by simp [Value.oneCell']) ?_
            refine wpList_store_rowTo rfl 51 (.tmp 7) (.tmp 17) rfl rfl (v17.heap.size) #[.int .i64 (bx1 px true), .int .i64 (bx2 px true), .int .i64 (bx1 py true), .int .i64 (bx2 py true), .int .u32 0] rfl rfl _ _ ((setRow_other _ _ _ _ (Ne.symm ne)).trans X7_25) (by kernel_rfl) rfl (by simp [Value.oneCell']) ?_
            have F6 := (setRow_other (v25.setRow (w0.heap.size) #[.int .i64 (bx1 px true), .int .i64 (bx2 px true), .int .i64 (bx1 py true), .int .i64 (bx2 py true), .int .u32 0]) (v17.heap.size) (w0.heap.size) #[.int .i64 (bx1 px true), .int .i64 (bx2 px true), .int .i64 (bx1 py true), .int .i64 (bx2 py true), .int .u32 0] ne).trans (setRow_heap _ _ _ #[.int .i64 (bx1 px true), .int .i64 (bx2 px true), .int .i64 (bx1 py true), .int .i64 (bx2 py true), .int .u32 0] _ _ X6_25)
            have F7 := setRow_heap (v25.setRow (w0.heap.size) #[.int .i64 (bx1 px true), .int .i64 (bx2 px true), .int .i64 (bx1 py true), .int .i64 (bx2 py true), .int .u32 0]) (v17.heap.size) _ #[.int .i64 (bx1 px true), .int .i64 (bx2 px true), .int .i64 (bx1 py true), .int .i64 (bx2 py true), .int .u32 0] _ _ ((setRow_other _ _ _ _ (Ne.symm ne)).trans X7_25)
            have FB := below_setRow (below_setRow B25 l6 #[.int .i64 (bx1 px true), .int .i64 (bx2 px true), .int .i64 (bx1 py true), .int .i64 (bx2 py true), .int .u32 0]) l7 #[.int .i64 (bx1 px true), .int .i64 (bx2 px true), .int .i64 (bx1 py true), .int .i64 (bx2 py true), .int .u32 0]
            generalize (v25.setRow (w0.heap.size) #[.int .i64 (bx1 px true), .int .i64 (bx2 px true), .int .i64 (bx1 py true), .int .i64 (bx2 py true), .int .u32 0]).setRow (v17.heap.size) #[.int .i64 (bx1 px true), .int .i64 (bx2 px true), .int .i64 (bx1 py true), .int .i64 (bx2 py true), .int .u32 0] = W9 at *
            go_wp2_with fail
            go_meet
            exact ⟨_, _, rfl, rfl, Lib.hid ne, by omega, by omega, Lib.hid (HB1.out.trans (FB.mono HB1.out.size)), Lib.hid ((FB.block _ HWL.out).trans HX1.out), Lib.hid F6, Lib.hid F7⟩
    · go_simp
      obtain ⟨v26, e26⟩ : ∃ W, W = w0.alloc (.cells #[.int .i64 0, .int .i64 0, .int .i64 0, .int .i64 0, .int .u32 0] 51) := ⟨_, rfl⟩
      have hb26 : Below w0.heap.size w0 v26 := by rw [e26]; exact (Below.refl _ _).alloc (Nat.le_refl _) _
      have B26 := B0.trans (hb26.mono B0.size)
      have X7_26 : v26.heap[w0.heap.size]? = some (.cells #[.int .i64 0, .int .i64 0, .int .i64 0, .int .i64 0, .int .u32 0] 51 (0, 0) : Obj) := by rw [e26]; exact lit0 _ _
      have hs26 : w0.heap.size < v26.heap.size := (Array.getElem?_eq_some_iff.1 X7_26).1
      rw [← e26]
      clear e26
      refine hK _ _ (fun _ _ => ⟨⟨_, B26⟩, rfl⟩) ?_
      clear hK K
      refine wpAnyT_ready [4, 10] (by kernel_rfl) (by simp) ?_
      refine AllReadyT.cons rfl (fun K hK => ?_) (AllReadyT.cons rfl (fun K hK => ?_) AllReadyT.nil)
      · refine step_call ent_cbox rfl _ _ rfl (vals := #[.int .i64 px, .int .i64 py, .int .u8 3]) rfl (CB.out _) ?_
        rintro e v27 ⟨rfl, hb27⟩
        have B27 := B26.trans (hb27.mono B26.size)
        have X7_27 := (hb27.block _ (Array.getElem?_eq_some_iff.1 X7_26).1).trans X7_26
        have hs27 := hb27.size
        refine ⟨_, rfl, ?_⟩
        refine hK _ _ (fun _ _ => ⟨⟨_, B27⟩, rfl⟩) ?_
        clear hK K
        refine wpAnyT_ready [9, 10] (by kernel_rfl) (by simp) ?_
        refine AllReadyT.cons rfl (fun K hK => ?_) (AllReadyT.cons rfl (fun K hK => ?_) AllReadyT.nil)
        · refine step_call ent_cbox rfl _ _ rfl (vals := #[.int .i64 px, .int .i64 py, .int .u8 3]) rfl (CB.out _) ?_
          rintro e v28 ⟨rfl, hb28⟩
          have B28 := B27.trans (hb28.mono B27.size)
          have X7_28 := (hb28.block _ (Array.getElem?_eq_some_iff.1 X7_27).1).trans X7_27
          have hs28 := hb28.size
          refine ⟨_, rfl, ?_⟩
          refine hK _ _ (fun _ _ => ⟨⟨_, B28⟩, rfl⟩) ?_
          clear hK K
          refine wpAnyT_ready [10] (by kernel_rfl) (by simp) ?_
          refine AllReadyT.cons rfl (fun K hK => ?_) AllReadyT.nil
          · go_simp
            obtain ⟨v29, e29⟩ : ∃ W, W = v28.alloc (.cells #[.int .i64 0, .int .i64 0, .int .i64 0, .int .i64 0, .int .u32 0] 51) := ⟨_, rfl⟩
            have hb29 : Below v28.heap.size v28 v29 := by rw [e29]; exact (Below.refl _ _).alloc (Nat.le_refl _) _
            have B29 := B28.trans (hb29.mono B28.size)
            have X7_29 := (hb29.block _ (Array.getElem?_eq_some_iff.1 X7_28).1).trans X7_28
            have X6_29 : v29.heap[v28.heap.size]? = some (.cells #[.int .i64 0, .int .i64 0, .int .i64 0, .int .i64 0, .int .u32 0] 51 (0, 0) : Obj) := by rw [e29]; exact lit0 _ _
            have hs29 : v28.heap.size < v29.heap.size := (Array.getElem?_eq_some_iff.1 X6_29).1
            rw [← e29]
            clear e29
            refine hK _ _ (fun _ _ => ⟨⟨_, B29⟩, rfl⟩) ?_
            clear hK K
            have ne : v28.heap.size ≠ w0.heap.size := by omega
            have l6 : w1.heap.size ≤ v28.heap.size := by omega
            have l7 : w1.heap.size ≤ w0.heap.size := by omega
            refine wpAnyT_line [12, 13] _ _ _ (by kernel_rfl) ?_
            simp only [pick, List.filterMap_cons, List.filterMap_nil, List.getElem?_toArray, List.getElem?_cons_succ, List.getElem?_cons_zero]
            refine wpList_store_rowTo rfl 51 (.tmp 6) (.tmp 12) rfl rfl (v28.heap.size) #[.int .i64 (bx1 px true), .int .i64 (bx2 px true), .int .i64 (bx1 py true), .int .i64 (bx2 py true), .int .u32 0] rfl rfl _ _ X6_29 (by kernel_rfl) rfl (by simp [Value.oneCell']) ?_
            refine wpList_store_rowTo rfl 51 (.tmp 7) (.tmp 17) rfl rfl (w0.heap.size) #[.int .i64 (bx1 px true), .int .i64 (bx2 px true), .int .i64 (bx1 py true), .int .i64 (bx2 py true), .int .u32 0] rfl rfl _ _ ((setRow_other _ _ _ _ (Ne.symm ne)).trans X7_29) (by kernel_rfl) rfl (by simp [Value.oneCell']) ?_
            have F6 := (setRow_other (v29.setRow (v28.heap.size) #[.int .i64 (bx1 px true), .int .i64 (bx2 px true), .int .i64 (bx1 py true), .int .i64 (bx2 py true), .int .u32 0]) (w0.heap.size) (v28.heap.size) #[.int .i64 (bx1 px true), .int .i64 (bx2 px true), .int .i64 (bx1 py true), .int .i64 (bx2 py true), .int .u32 0] ne).trans (setRow_heap _ _ _ #[.int .i64 (bx1 px true), .int .i64 (bx2 px true), .int .i64 (bx1 py true), .int .i64 (bx2 py true), .int .u32 0] _ _ X6_29)
            have F7 := setRow_heap (v29.setRow (v28.heap.size) #[.int .i64 (bx1 px true), .int .i64 (bx2 px true), .int .i64 (bx1 py true), .int .i64 (bx2 py true), .int .u32 0]) (w0.heap.size) _ #[.int .i64 (bx1 px true), .int .i64 (bx2 px true), .int .i64 (bx1 py true), .int .i64 (bx2 py true), .int .u32 0] _ _ ((setRow_other _ _ _ _ (Ne.symm ne)).trans X7_29)
            have FB := below_setRow (below_setRow B29 l6 #[.int .i64 (bx1 px true), .int .i64 (bx2 px true), .int .i64 (bx1 py true), .int .i64 (bx2 py true), .int .u32 0]) l7 #[.int .i64 (bx1 px true), .int .i64 (bx2 px true), .int .i64 (bx1 py true), .int .i64 (bx2 py true), .int .u32 0]
            generalize (v29.setRow (v28.heap.size) #[.int .i64 (bx1 px true), .int .i64 (bx2 px true), .int .i64 (bx1 py true), .int .i64 (bx2 py true), .int .u32 0]).setRow (w0.heap.size) #[.int .i64 (bx1 px true), .int .i64 (bx2 px true), .int .i64 (bx1 py true), .int .i64 (bx2 py true), .int .u32 0] = W9 at *
            go_wp2_with fail
            go_meet
            exact ⟨_, _, rfl, rfl, Lib.hid ne, by omega, by omega, Lib.hid (HB1.out.trans (FB.mono HB1.out.size)), Lib.hid ((FB.block _ HWL.out).trans HX1.out), Lib.hid F6, Lib.hid F7⟩
        · go_simp
          obtain ⟨v30, e30⟩ : ∃ W, W = v27.alloc (.cells #[.int .i64 0, .int .i64 0, .int .i64 0, .int .i64 0, .int .u32 0] 51) := ⟨_, rfl⟩
          have hb30 : Below v27.heap.size v27 v30 := by rw [e30]; exact (Below.refl _ _).alloc (Nat.le_refl _) _
          have B30 := B27.trans (hb30.mono B27.size)
          have X7_30 := (hb30.block _ (Array.getElem?_eq_some_iff.1 X7_27).1).trans X7_27
          have X6_30 : v30.heap[v27.heap.size]? = some (.cells #[.int .i64 0, .int .i64 0, .int .i64 0, .int .i64 0, .int .u32 0] 51 (0, 0) : Obj) := by rw [e30]; exact lit0 _ _
          have hs30 : v27.heap.size < v30.heap.size := (Array.getElem?_eq_some_iff.1 X6_30).1
          rw [← e30]
          clear e30
          refine hK _ _ (fun _ _ => ⟨⟨_, B30⟩, rfl⟩) ?_
          clear hK K
          refine wpAnyT_ready [9] (by kernel_rfl) (by simp) ?_
          refine AllReadyT.cons rfl (fun K hK => ?_) AllReadyT.nil
          · refine step_call ent_cbox rfl _ _ rfl (vals := #[.int .i64 px, .int .i64 py, .int .u8 3]) rfl (CB.out _) ?_
            rintro e v31 ⟨rfl, hb31⟩
            have B31 := B30.trans (hb31.mono B30.size)
            have X7_31 := (hb31.block _ (Array.getElem?_eq_some_iff.1 X7_30).1).trans X7_30
            have X6_31 := (hb31.block _ (Array.getElem?_eq_some_iff.1 X6_30).1).trans X6_30
            have hs31 := hb31.size
            refine ⟨_, rfl, ?_⟩
            refine hK _ _ (fun _ _ => ⟨⟨_, B31⟩, rfl⟩) ?_
            clear hK K
            have ne : v27.heap.size ≠ w0.heap.size := by omega
            have l6 : w1.heap.size ≤ v27.heap.size := by omega
            have l7 : w1.heap.size ≤ w0.heap.size := by omega
            refine wpAnyT_line [12, 13] _ _ _ (by kernel_rfl) ?_
            simp only [pick, List.filterMap_cons, List.filterMap_nil, List.getElem?_toArray, List.getElem?_cons_succ, List.getElem?_cons_zero]
            refine wpList_store_rowTo rfl 51 (.tmp 6) (.tmp 12) rfl rfl (v27.heap.size) #[.int .i64 (bx1 px true), .int .i64 (bx2 px true), .int .i64 (bx1 py true), .int .i64 (bx2 py true), .int .u32 0] rfl rfl _ _ X6_31 (by kernel_rfl) rfl (by simp [Value.oneCell']) ?_
            refine wpList_store_rowTo rfl 51 (.tmp 7) (.tmp 17) rfl rfl (w0.heap.size) #[.int .i64 (bx1 px true), .int .i64 (bx2 px true), .int .i64 (bx1 py true), .int .i64 (bx2 py true), .int .u32 0] rfl rfl _ _ ((setRow_other _ _ _ _ (Ne.symm ne)).trans X7_31) (by kernel_rfl) rfl (by simp [Value.oneCell']) ?_
            have F6 := (setRow_other (v31.setRow (v27.heap.size) #[.int .i64 (bx1 px true), .int .i64 (bx2 px true), .int .i64 (bx1 py true), .int .i64 (bx2 py true), .int .u32 0]) (w0.heap.size) (v27.heap.size) #[.int .i64 (bx1 px true), .int .i64 (bx2 px true), .int .i64 (bx1 py true), .int .i64 (bx2 py true), .int .u32 0] ne).trans (setRow_heap _ _ _ #[.int .i64 (bx1 px true), .int .i64 (bx2 px true), .int .i64 (bx1 py true), .int .i64 (bx2 py true), .int .u32 0] _ _ X6_31)
            have F7 := setRow_heap (v31.setRow (v27.heap.size) #[.int .i64 (bx1 px true), .int .i64 (bx2 px true), .int .i64 (bx1 py true), .int .i64 (bx2 py true), .int .u32 0]) (w0.heap.size) _ #[.int .i64 (bx1 px true), .int .i64 (bx2 px true), .int .i64 (bx1 py true), .int .i64 (bx2 py true), .int .u32 0] _ _ ((setRow_other _ _ _ _ (Ne.symm ne)).trans X7_31)
            have FB := below_setRow (below_setRow B31 l6 #[.int .i64 (bx1 px true), .int .i64 (bx2 px true), .int .i64 (bx1 py true), .int .i64 (bx2 py true), .int .u32 0]) l7 #[.int .i64 (bx1 px true), .int .i64 (bx2 px true), .int .i64 (bx1 py true), .int .i64 (bx2 py true), .int .u32 0]
            generalize (v31.setRow (v27.heap.size) #[.int .i64 (bx1 px true), .int .i64 (bx2 px true), .int .i64 (bx1 py true), .int .i64 (bx2 py true), .int .u32 0]).setRow (w0.heap.size) #[.int .i64 (bx1 px true), .int .i64 (bx2 px true), .int .i64 (bx1 py true), .int .i64 (bx2 py true), .int .u32 0] = W9 at *
            go_wp2_with fail
            go_meet
            exact ⟨_, _, rfl, rfl, Lib.hid ne, by omega, by omega, Lib.hid (HB1.out.trans (FB.mono HB1.out.size)), Lib.hid ((FB.block _ HWL.out).trans HX1.out), Lib.hid F6, Lib.hid F7⟩
      · go_simp
        obtain ⟨v32, e32⟩ : ∃ W, W = v26.alloc (.cells #[.int .i64 0, .int .i64 0, .int .i64 0, .int .i64 0, .int .u32 0] 51) := ⟨_, rfl⟩
        have hb32 : Below v26.heap.size v26 v32 := by rw [e32]; exact (Below.refl _ _).alloc (Nat.le_refl _) _
        have B32 := B26.trans (hb32.mono B26.size)
        have X7_32 := (hb32.block _ (Array.getElem?_eq_some_iff.1 X7_26).1).trans X7_26
        have X6_32 : v32.heap[v26.heap.size]? = some (.cells #[.int .i64 0, .int .i64 0, .int .i64 0, .int .i64 0, .int .u32 0] 51 (0, 0) : Obj) := by rw [e32]; exact lit0 _ _
        have hs32 : v26.heap.size < v32.heap.size := (Array.getElem?_eq_some_iff.1 X6_32).1
        rw [← e32]
        clear e32
        refine hK _ _ (fun _ _ => ⟨⟨_, B32⟩, rfl⟩) ?_
        clear hK K
        refine wpAnyT_ready [4] (by kernel_rfl) (by simp) ?_
        refine AllReadyT.cons rfl (fun K hK => ?_) AllReadyT.nil
        · refine step_call ent_cbox rfl _ _ rfl (vals := #[.int .i64 px, .int .i64 py, .int .u8 3]) rfl (CB.out _) ?_
          rintro e v33 ⟨rfl, hb33⟩
          have B33 := B32.trans (hb33.mono B32.size)
          have X7_33 := (hb33.block _ (Array.getElem?_eq_some_iff.1 X7_32).1).trans X7_32
          have X6_33 := (hb33.block _ (Array.getElem?_eq_some_iff.1 X6_32).1).trans X6_32
          have hs33 := hb33.size
          refine ⟨_, rfl, ?_⟩
          refine hK _ _ (fun _ _ => ⟨⟨_, B33⟩, rfl⟩) ?_
          clear hK K
          refine wpAnyT_ready [9] (by kernel_rfl) (by simp) ?_
          refine AllReadyT.cons rfl (fun K hK => ?_) AllReadyT.nil
          · refine step_call ent_cbox rfl _ _ rfl (vals := #[.int .i64 px, .int .i64 py, .int .u8 3]) rfl (CB.out _) ?_
            rintro e v34 ⟨rfl, hb34⟩
            have B34 := B33.trans (hb34.mono B33.size)
            have X7_34 := (hb34.block _ (Array.getElem?_eq_some_iff.1 X7_33).1).trans X7_33
            have X6_34 := (hb34.block _ (Array.getElem?_eq_some_iff.1 X6_33).1).trans X6_33
            have hs34 := hb34.size
            refine ⟨_, rfl, ?_⟩
            refine hK _ _ (fun _ _ => ⟨⟨_, B34⟩, rfl⟩) ?_
            clear hK K
            have ne : v26.heap.size ≠ w0.heap.size := by omega
            have l6 : w1.heap.size ≤ v26.heap.size := by omega
            have l7 : w1.heap.size ≤ w0.heap.size := by omega
            refine wpAnyT_line [12, 13] _ _ _ (by kernel_rfl) ?_
            simp only [pick, List.filterMap_cons, List.filterMap_nil, List.getElem?_toArray, List.getElem?_cons_succ, List.getElem?_cons_zero]
            refine wpList_store_rowTo rfl 51 (.tmp 6) (.tmp 12) rfl rfl (v26.heap.size) #[.int .i64 (bx1 px true), .int .i64 (bx2 px true), .int .i64 (bx1 py true), .int .i64 (bx2 py true), .int .u32 0] rfl rfl _ _ X6_34 (by kernel_rfl) rfl (by simp [Value.oneCell']) ?_
            refine wpList_store_rowTo rfl 51 (.tmp 7) (.tmp 17) rfl rfl (w0.heap.size) #[.int .i64 (bx1 px true), .int .i64 (bx2 px true), .int .i64 (bx1 py true), .int .i64 (bx2 py true), .int .u32 0] rfl rfl _ _ ((setRow_other _ _ _ _ (Ne.symm ne)).trans X7_34) (by kernel_rfl) rfl (by simp [Value.oneCell']) ?_
            have F6 := (setRow_other (v34.setRow (v26.heap.size) #[.int .i64 (bx1 px true), .int .i64 (bx2 px true), .int .i64 (bx1 py true), .int .i64 (bx2 py true), .int .u32 0]) (w0.heap.size) (v26.heap.size) #[.int .i64 (bx1 px true), .int .i64 (bx2 px true), .int .i64 (bx1 py true), .int .i64 (bx2 py true), .int .u32 0] ne).trans (setRow_heap _ _ _ #[.int .i64 (bx1 px true), .int .i64 (bx2 px true), .int .i64 (bx1 py true), .int .i64 (bx2 py true), .int .u32 0] _ _ X6_34)
            have F7 := setRow_heap (v34.setRow (v26.heap.size) #[.int .i64 (bx1 px true), .int .i64 (bx2 px true), .int .i64 (bx1 py true), .int .i64 (bx2 py true), .int .u32 0]) (w0.heap.size) _ #[.int .i64 (bx1 px true), .int .i64 (bx2 px true), .int .i64 (bx1 py true), .int .i64 (bx2 py true), .int .u32 0] _ _ ((setRow_other _ _ _ _ (Ne.symm ne)).trans X7_34)
            have FB := below_setRow (below_setRow B34 l6 #[.int .i64 (bx1 px true), .int .i64 (bx2 px true), .int .i64 (bx1 py true), .int .i64 (bx2 py true), .int .u32 0]) l7 #[.int .i64 (bx1 px true), .int .i64 (bx2 px true), .int .i64 (bx1 py true), .int .i64 (bx2 py true), .int .u32 0]
            generalize (v34.setRow (v26.heap.size) #[.int .i64 (bx1 px true), .int .i64 (bx2 px true), .int .i64 (bx1 py true), .int .i64 (bx2 py true), .int .u32 0]).setRow (w0.heap.size) #[.int .i64 (bx1 px true), .int .i64 (bx2 px true), .int .i64 (bx1 py true), .int .i64 (bx2 py true), .int .u32 0] = W9 at *
            go_wp2_with fail
            go_meet
            exact ⟨_, _, rfl, rfl, Lib.hid ne, by omega, by omega, Lib.hid (HB1.out.trans (FB.mono HB1.out.size)), Lib.hid ((FB.block _ HWL.out).trans HX1.out), Lib.hid F6, Lib.hid F7⟩
  case rest =>
    obtain ⟨g6, g7, rfl, rfl, hne, h6, h7, HB, HP, H6, H7⟩ := hcut
    have q1 : wc.cell? ⟨w.heap.size, 0, none⟩ = some (.int .i64 px) := (obP_cells HP.out).1
    have q2 : wc.cell? ⟨w.heap.size, 1, none⟩ = some (.int .i64 py) := (obP_cells HP.out).2.1
    go_upto_if 20 with fail
    clear q1 q2
    go_cut [] from 20 (fun wx => Hid (Below w.heap.size w wx) ∧ Hid (wx.heap[w.heap.size]? = some (obP (px, py, pi))) ∧ Hid (wx.heap[g6]? = some (objBx (bxO (aboveB (px, py, pi))))) ∧ Hid (wx.heap[g7]? = some (objBx ((px, 9223372036854775807, py, 9223372036854775807, 0)))))
    case first =>
      have y0 : wc.cell? ⟨g6, 0, none⟩ = some (.int .i64 px) := (objBx_cells H6.out).1
      have y1 : wc.cell? ⟨g6, 1, none⟩ = some (.int .i64 9223372036854775807) := (objBx_cells H6.out).2.1
      have y2 : wc.cell? ⟨g6, 2, none⟩ = some (.int .i64 py) := (objBx_cells H6.out).2.2.1
      have y3 : wc.cell? ⟨g6, 3, none⟩ = some (.int .i64 9223372036854775807) := (objBx_cells H6.out).2.2.2.1
      have y4 : wc.cell? ⟨g6, 4, none⟩ = some (.int .u32 0) := (objBx_cells H6.out).2.2.2.2
      have yz0 : wc.frozen? ⟨g6, 0, none⟩ = false := by simp [World.frozen?, H6.out, objBx]
      have yz1 : wc.frozen? ⟨g6, 1, none⟩ = false := by simp [World.frozen?, H6.out, objBx]
      have yz2 : wc.frozen? ⟨g6, 2, none⟩ = false := by simp [World.frozen?, H6.out, objBx]
      have yz3 : wc.frozen? ⟨g6, 3, none⟩ = false := by simp [World.frozen?, H6.out, objBx]
      have yz4 : wc.frozen? ⟨g6, 4, none⟩ = false := by simp [World.frozen?, H6.out, objBx]
      have hy := HY.out
      simp only [leastI, mostI] at hy
      by_cases e : py = 9223372036854775807
      · have d : (py == 9223372036854775807) = true := by simp [e]
        have E := Lib.hid e
        clear e
        go_wp2_with (first
          | (go_at_call 60; refine (NT.out _).mono ?_; rintro e2 w2 ⟨rfl, hb2⟩; have X2 := (hb2.block _ (Array.getElem?_eq_some_iff.1 H6.out).1).trans H6.out; have X3 := (hb2.block _ (Array.getElem?_eq_some_iff.1 H7.out).1).trans H7.out; have X4 := (hb2.block _ (Array.getElem?_eq_some_iff.1 HP.out).1).trans HP.out)
          | (refine wpList_store_rowTo rfl 51 (.tmp 6) (.tmp 21) rfl rfl g6 #[.int .i64 1, .int .i64 0, .int .i64 0, .int .i64 0, .int .u32 0] rfl rfl _ _ X2 (by kernel_rfl) rfl (by simp [Value.oneCell']) ?_))
        go_meet
        have BB := (HB.out.trans (hb2.mono HB.out.size))
        exact ⟨Lib.hid (below_setRow BB (by omega) _), Lib.hid ((setRow_other _ _ _ _ (by omega)).trans X4), Lib.hid ((setRow_heap _ _ _ _ _ _ X2).trans (congrArg some (show objBx (bxO (aboveB (px, py, pi))) = _ by rw [show aboveB (px, py, pi) = noB by simp [aboveB, E.out]]; rfl).symm)), Lib.hid ((setRow_other _ _ _ _ (Ne.symm hne.out)).trans X3)⟩
      · have d : (py == 9223372036854775807) = false := by simp [e]
        have el : py < 9223372036854775807 := by omega
        have E := Lib.hid e
        clear e
        go_wp2
        go_meet
        have S1 := heap_setCell_same wc g6 2 _ _ (Value.int .i64 (py + 1)) H6.out
        exact ⟨Lib.hid (HB.out.setCell (by show w.heap.size ≤ g6; omega) _), Lib.hid ((heap_setNe (by show g6 ≠ w.heap.size; omega)).trans HP.out), Lib.hid (S1.trans (congrArg some (show _ = objBx (bxO (aboveB (px, py, pi))) by rw [show aboveB (px, py, pi) = (px, 9223372036854775807, py + 1, 9223372036854775807) by simp [aboveB, E.out]]; rfl))), Lib.hid ((heap_setNe (by show g6 ≠ g7; exact hne.out)).trans H7.out)⟩
    case rest =>
    clear HB HP H6 H7
    obtain ⟨HB, HP, H6, H7⟩ := hcut
    have q1 : wc.cell? ⟨w.heap.size, 0, none⟩ = some (.int .i64 px) := (obP_cells HP.out).1
    have q2 : wc.cell? ⟨w.heap.size, 1, none⟩ = some (.int .i64 py) := (obP_cells HP.out).2.1
    go_upto_if 28 with fail
    go_cut [] from 28 (fun wx => Hid (Below w.heap.size w wx) ∧ Hid (wx.heap[w.heap.size]? = some (obP (px, py, pi))) ∧ Hid (wx.heap[g6]? = some (objBx (bxO (aboveB (px, py, pi))))) ∧ Hid (wx.heap[g7]? = some (objBx (bxO (rightB (px, py, pi))))))
    case first =>
      have y0 : wc.cell? ⟨g7, 0, none⟩ = some (.int .i64 px) := (objBx_cells H7.out).1
      have y1 : wc.cell? ⟨g7, 1, none⟩ = some (.int .i64 9223372036854775807) := (objBx_cells H7.out).2.1
      have y2 : wc.cell? ⟨g7, 2, none⟩ = some (.int .i64 py) := (objBx_cells H7.out).2.2.1
      have y3 : wc.cell? ⟨g7, 3, none⟩ = some (.int .i64 9223372036854775807) := (objBx_cells H7.out).2.2.2.1
      have y4 : wc.cell? ⟨g7, 4, none⟩ = some (.int .u32 0) := (objBx_cells H7.out).2.2.2.2
      have yz0 : wc.frozen? ⟨g7, 0, none⟩ = false := by simp [World.frozen?, H7.out, objBx]
      have yz1 : wc.frozen? ⟨g7, 1, none⟩ = false := by simp [World.frozen?, H7.out, objBx]
      have yz2 : wc.frozen? ⟨g7, 2, none⟩ = false := by simp [World.frozen?, H7.out, objBx]
      have yz3 : wc.frozen? ⟨g7, 3, none⟩ = false := by simp [World.frozen?, H7.out, objBx]
      have yz4 : wc.frozen? ⟨g7, 4, none⟩ = false := by simp [World.frozen?, H7.out, objBx]
      have hx := HX.out
      simp only [leastI, mostI] at hx
      by_cases e : px = 9223372036854775807
      · have d : (px == 9223372036854775807) = true := by simp [e]
        have E := Lib.hid e
        clear e
        go_wp2_with (first
          | (go_at_call 60; refine (NT.out _).mono ?_; rintro e2 w2 ⟨rfl, hb2⟩; have X2 := (hb2.block _ (Array.getElem?_eq_some_iff.1 H7.out).1).trans H7.out; have X3 := (hb2.block _ (Array.getElem?_eq_some_iff.1 H6.out).1).trans H6.out; have X4 := (hb2.block _ (Array.getElem?_eq_some_iff.1 HP.out).1).trans HP.out)
          | (refine wpList_store_rowTo rfl 51 (.tmp 7) (.tmp 29) rfl rfl g7 #[.int .i64 1, .int .i64 0, .int .i64 0, .int .i64 0, .int .u32 0] rfl rfl _ _ X2 (by kernel_rfl) rfl (by simp [Value.oneCell']) ?_))
        go_meet
        have BB := (HB.out.trans (hb2.mono HB.out.size))
        exact ⟨Lib.hid (below_setRow BB (by omega) _), Lib.hid ((setRow_other _ _ _ _ (by omega)).trans X4), Lib.hid ((setRow_other _ _ _ _ hne.out).trans X3), Lib.hid ((setRow_heap _ _ _ _ _ _ X2).trans (congrArg some (show objBx (bxO (rightB (px, py, pi))) = _ by rw [show rightB (px, py, pi) = noB by simp [rightB, E.out]]; rfl).symm))⟩
      · have d : (px == 9223372036854775807) = false := by simp [e]
        have el : px < 9223372036854775807 := by omega
        have E := Lib.hid e
        clear e
        have nwg : w.heap.size ≠ g7 := by omega
        go_wp2
        go_meet
        have S1 := heap_setCell_same wc g7 0 _ _ (Value.int .i64 (px + 1)) H7.out
        have S2 := heap_setCell_same _ g7 3 _ _ (Value.int .i64 py) S1
        exact ⟨Lib.hid ((HB.out.setCell (by show w.heap.size ≤ g7; omega) _).setCell (by show w.heap.size ≤ g7; omega) _), Lib.hid ((heap_setNe (by show g7 ≠ w.heap.size; omega)).trans ((heap_setNe (by show g7 ≠ w.heap.size; omega)).trans HP.out)), Lib.hid ((heap_setNe (by show g7 ≠ g6; exact Ne.symm hne.out)).trans ((heap_setNe (by show g7 ≠ g6; exact Ne.symm hne.out)).trans H6.out)), Lib.hid (S2.trans (congrArg some (show _ = objBx (bxO (rightB (px, py, pi))) by rw [show rightB (px, py, pi) = (px + 1, 9223372036854775807, py, py) by simp [rightB, E.out]]; rfl)))⟩
    case rest =>
    clear HB HP H6 H7
    obtain ⟨HB, HP, H6, H7⟩ := hcut
    generalize aboveB (px, py, pi) = A at *
    generalize rightB (px, py, pi) = B at *
    obtain ⟨A1, A2, A3, A4⟩ := A
    obtain ⟨B1, B2, B3, B4⟩ := B
    have y0 : wc.cell? ⟨g6, 0, none⟩ = some (.int .i64 A1) := (objBx_cells H6.out).1
    have y1 : wc.cell? ⟨g6, 1, none⟩ = some (.int .i64 A2) := (objBx_cells H6.out).2.1
    have y2 : wc.cell? ⟨g6, 2, none⟩ = some (.int .i64 A3) := (objBx_cells H6.out).2.2.1
    have y3 : wc.cell? ⟨g6, 3, none⟩ = some (.int .i64 A4) := (objBx_cells H6.out).2.2.2.1
    have y4 : wc.cell? ⟨g6, 4, none⟩ = some (.int .u32 0) := (objBx_cells H6.out).2.2.2.2
    have yz0 : wc.frozen? ⟨g6, 0, none⟩ = false := by simp [World.frozen?, H6.out, objBx]
    have yz1 : wc.frozen? ⟨g6, 1, none⟩ = false := by simp [World.frozen?, H6.out, objBx]
    have yz2 : wc.frozen? ⟨g6, 2, none⟩ = false := by simp [World.frozen?, H6.out, objBx]
    have yz3 : wc.frozen? ⟨g6, 3, none⟩ = false := by simp [World.frozen?, H6.out, objBx]
    have yz4 : wc.frozen? ⟨g6, 4, none⟩ = false := by simp [World.frozen?, H6.out, objBx]
    have x0 : wc.cell? ⟨g7, 0, none⟩ = some (.int .i64 B1) := (objBx_cells H7.out).1
    have x1 : wc.cell? ⟨g7, 1, none⟩ = some (.int .i64 B2) := (objBx_cells H7.out).2.1
    have x2 : wc.cell? ⟨g7, 2, none⟩ = some (.int .i64 B3) := (objBx_cells H7.out).2.2.1
    have x3 : wc.cell? ⟨g7, 3, none⟩ = some (.int .i64 B4) := (objBx_cells H7.out).2.2.2.1
    have x4 : wc.cell? ⟨g7, 4, none⟩ = some (.int .u32 0) := (objBx_cells H7.out).2.2.2.2
    have xz0 : wc.frozen? ⟨g7, 0, none⟩ = false := by simp [World.frozen?, H7.out, objBx]
    have xz1 : wc.frozen? ⟨g7, 1, none⟩ = false := by simp [World.frozen?, H7.out, objBx]
    have xz2 : wc.frozen? ⟨g7, 2, none⟩ = false := by simp [World.frozen?, H7.out, objBx]
    have xz3 : wc.frozen? ⟨g7, 3, none⟩ = false := by simp [World.frozen?, H7.out, objBx]
    have xz4 : wc.frozen? ⟨g7, 4, none⟩ = false := by simp [World.frozen?, H7.out, objBx]
    have hlit : ∀ W, Below wc.heap.size wc W → True := fun _ _ => trivial
    go_wp2_with fail
    have RL := RdK.lit (sz := 5) eBx_len wc 51 [bxO (A1, A2, A3, A4), bxO (B1, B2, B3, B4)] wc.heap.size rfl
    have b1 : Below wc.heap.size wc (wc.alloc (.cells #[.int .i64 A1, .int .i64 A2, .int .i64 A3, .int .i64 A4, .int .u32 0, .int .i64 B1, .int .i64 B2, .int .i64 B3, .int .i64 B4, .int .u32 0] 51)) := (Below.refl _ _).alloc (Nat.le_refl _) _
    have BF := HB.out.trans (b1.mono HB.out.size)
    have CF := CC.out _ BF _ RL
    refine CF.mono ?_
    rintro e w9 ⟨v, c, rfl, hR⟩
    have HR := Lib.hid hR
    have HBF := Lib.hid BF
    clear hR CF RL BF b1
    go_wp2_with fail
    go_ret2
    exact ⟨v, c, rfl, _, HBF.out, HR.out⟩

set_option maxRecDepth 100000 in
set_option maxHeartbeats 8000000 in
theorem cn_Under {w : World} {cb : Nat} (px py pi : Int) (hx : leastI ≤ px ∧ px ≤ mostI) (hy : leastI ≤ py ∧ py ≤ mostI) {R : World → Value → Value → World → Prop}
    (C : ∀ W, Below w.heap.size w W → ∀ ab, RdK eBx 5 W ab [bxO (belowB (px, py, pi)), bxO (leftB (px, py, pi))] → Calls Tryz.prog 61 #[.pointer (some ⟨cb, 0, none⟩), .slice ab 2 2] W fun e W' => ∃ v c, e = .returned (.tuple #[v, c]) ∧ R W v c W') :
    Calls Tryz.prog 22 #[.pointer (some ⟨cb, 0, none⟩), vPt px py pi] w fun e w' => ∃ v c, e = .returned (.tuple #[v, c]) ∧ ∃ W, Below w.heap.size w W ∧ R W v c w' := by
  have CC := Lib.hid C
  have HX := Lib.hid hx
  have HY := Lib.hid hy
  have NT := Lib.hid (fun W => cn_nothing W)
  clear C hx hy
  have CB := Lib.hid (fun W => cn_box px py false false 0 rfl W)
  go_enter Tryz.func22, Tryz.ntmps22
  go_upto_region 1 with fail
  obtain ⟨w1, ew1⟩ : ∃ w1, w1 = w.alloc (.cells #[.int .i64 px, .int .i64 py, .int .u32 pi] 34) := ⟨_, rfl⟩
  have hx1 : w1.heap[w.heap.size]? = some (obP (px, py, pi)) := by rw [ew1]; exact lit0 _ _
  have B1 : Below w.heap.size w w1 := by rw [ew1]; exact (Below.refl _ _).alloc (Nat.le_refl _) _
  rw [← ew1]
  clear ew1
  obtain ⟨hc1, hc2, -⟩ := obP_cells hx1
  have hwl : w.heap.size < w1.heap.size := (Array.getElem?_eq_some_iff.1 hx1).1
  have HWL := Lib.hid hwl
  have HB1 := Lib.hid B1
  have HX1 := Lib.hid hx1
  have g1 := cell_belowW hc1
  have g2 := cell_belowW hc2
  clear B1 hx1
  go_cut [6, 7] from 8 (fun v6 v7 wx => ∃ g6 g7, v6 = .pointer (some ⟨g6, 0, none⟩) ∧ v7 = .pointer (some ⟨g7, 0, none⟩) ∧ Hid (g6 ≠ g7) ∧ w.heap.size < g6 ∧ w.heap.size < g7 ∧ Hid (Below w.heap.size w wx) ∧ Hid (wx.heap[w.heap.size]? = some (obP (px, py, pi))) ∧ Hid (wx.heap[g6]? = some (objBx (-9223372036854775808, px, -9223372036854775808, py, 0))) ∧ Hid (wx.heap[g7]? = some (objBx (-9223372036854775808, px, -9223372036854775808, py, 0))))
  case first =>
    refine wp_region_head (fun W => ∃ p : BelowW w1, W = p.W) [9, 12, 13] [(0, false), (1, true), (2, false), (3, true), (5, false), (6, true), (7, false), (8, true)] (by kernel_rfl) (by kernel_rfl) (fun _ _ d _ _ h => by cases d <;> exact h) ⟨⟨_, (Below.refl _ _).drew⟩, rfl⟩ 6 rfl (by kernel_rfl) ?_
    simp only [pickB, List.filterMap_cons, List.filterMap_nil, List.getElem?_toArray, List.getElem?_cons_succ, List.getElem?_cons_zero, Option.map_some]
    repeat (refine wpHd_step (fun K hK => ?_); go_simp; first | (refine hK _ ?_; clear hK K) | (apply Exists.intro; refine ⟨fun _ => ?_, hK _ ?_⟩; rfl; clear hK K))
    refine wpHd_nil ?_
    have B0 : Below w1.heap.size w1 w1.drew := (Below.refl _ _).drew
    have hs0 : w1.heap.size = w1.drew.heap.size := rfl
    generalize w1.drew = w0 at *
    refine wpAnyT_ready [4, 10, 11] (by kernel_rfl) (by simp) ?_
    refine AllReadyT.cons rfl (fun K hK => ?_) (AllReadyT.cons rfl (fun K hK => ?_) (AllReadyT.cons rfl (fun K hK => ?_) AllReadyT.nil))
    · refine step_call ent_cbox rfl _ _ rfl (vals := #[.int .i64 px, .int .i64 py, .int .u8 0]) rfl (CB.out _) ?_
      rintro e v35 ⟨rfl, hb35⟩
      have B35 := B0.trans (hb35.mono B0.size)
      have hs35 := hb35.size
      refine ⟨_, rfl, ?_⟩
      refine hK _ _ (fun _ _ => ⟨⟨_, B35⟩, rfl⟩) ?_
      clear hK K
      refine wpAnyT_ready [9, 10, 11] (by kernel_rfl) (by simp) ?_
      refine AllReadyT.cons rfl (fun K hK => ?_) (AllReadyT.cons rfl (fun K hK => ?_) (AllReadyT.cons rfl (fun K hK => ?_) AllReadyT.nil))
      · refine step_call ent_cbox rfl _ _ rfl (vals := #[.int .i64 px, .int .i64 py, .int .u8 0]) rfl (CB.out _) ?_
        rintro e v36 ⟨rfl, hb36⟩
        have B36 := B35.trans (hb36.mono B35.size)
        have hs36 := hb36.size
        refine ⟨_, rfl, ?_⟩
        refine hK _ _ (fun _ _ => ⟨⟨_, B36⟩, rfl⟩) ?_
        clear hK K
        refine wpAnyT_ready [10, 11] (by kernel_rfl) (by simp) ?_
        refine AllReadyT.cons rfl (fun K hK => ?_) (AllReadyT.cons rfl (fun K hK => ?_) AllReadyT.nil)
        · go_simp
          obtain ⟨v37, e37⟩ : ∃ W, W = v36.alloc (.cells #[.int .i64 0, .int .i64 0, .int .i64 0, .int .i64 0, .int .u32 0] 51) := ⟨_, rfl⟩
          have hb37 : Below v36.heap.size v36 v37 := by rw [e37]; exact (Below.refl _ _).alloc (Nat.le_refl _) _
          have B37 := B36.trans (hb37.mono B36.size)
          have X6_37 : v37.heap[v36.heap.size]? = some (.cells #[.int .i64 0, .int .i64 0, .int .i64 0, .int .i64 0, .int .u32 0] 51 (0, 0) : Obj) := by rw [e37]; exact lit0 _ _
          have hs37 : v36.heap.size < v37.heap.size := (Array.getElem?_eq_some_iff.1 X6_37).1
          rw [← e37]
          clear e37
          refine hK _ _ (fun _ _ => ⟨⟨_, B37⟩, rfl⟩) ?_
          clear hK K
          refine wpAnyT_ready [11] (by kernel_rfl) (by simp) ?_
          refine AllReadyT.cons rfl (fun K hK => ?_) AllReadyT.nil
          · go_simp
            obtain ⟨v38, e38⟩ : ∃ W, W = v37.alloc (.cells #[.int .i64 0, .int .i64 0, .int .i64 0, .int .i64 0, .int .u32 0] 51) := ⟨_, rfl⟩
            have hb38 : Below v37.heap.size v37 v38 := by rw [e38]; exact (Below.refl _ _).alloc (Nat.le_refl _) _
            have B38 := B37.trans (hb38.mono B37.size)
            have X6_38 := (hb38.block _ (Array.getElem?_eq_some_iff.1 X6_37).1).trans X6_37
            have X7_38 : v38.heap[v37.heap.size]? = some (.cells #[.int .i64 0, .int .i64 0, .int .i64 0, .int .i64 0, .int .u32 0] 51 (0, 0) : Obj) := by rw [e38]; exact lit0 _ _
            have hs38 : v37.heap.size < v38.heap.size := (Array.getElem?_eq_some_iff.1 X7_38).1
            rw [← e38]
            clear e38
            refine hK _ _ (fun _ _ => ⟨⟨_, B38⟩, rfl⟩) ?_
            clear hK K
            have ne : v36.heap.size ≠ v37.heap.size := by omega
            have l6 : w1.heap.size ≤ v36.heap.size := by omega
            have l7 : w1.heap.size ≤ v37.heap.size := by omega
            refine wpAnyT_line [12, 13] _ _ _ (by kernel_rfl) ?_
            simp only [pick, List.filterMap_cons, List.filterMap_nil, List.getElem?_toArray, List.getElem?_cons_succ, List.getElem?_cons_zero]
            refine wpList_store_rowTo rfl 51 (.tmp 6) (.tmp 12) rfl rfl (v36.heap.size) #[.int .i64 (bx1 px false), .int .i64 (bx2 px false), .int .i64 (bx1 py false), .int .i64 (bx2 py false), .int .u32 0] rfl rfl _ _ X6_38 (by kernel_rfl) rfl (by simp [Value.oneCell']) ?_
            refine wpList_store_rowTo rfl 51 (.tmp 7) (.tmp 17) rfl rfl (v37.heap.size) #[.int .i64 (bx1 px false), .int .i64 (bx2 px false), .int .i64 (bx1 py false), .int .i64 (bx2 py false), .int .u32 0] rfl rfl _ _ ((setRow_other _ _ _ _ (Ne.symm ne)).trans X7_38) (by kernel_rfl) rfl (by simp [Value.oneCell']) ?_
            have F6 := (setRow_other (v38.setRow (v36.heap.size) #[.int .i64 (bx1 px false), .int .i64 (bx2 px false), .int .i64 (bx1 py false), .int .i64 (bx2 py false), .int .u32 0]) (v37.heap.size) (v36.heap.size) #[.int .i64 (bx1 px false), .int .i64 (bx2 px false), .int .i64 (bx1 py false), .int .i64 (bx2 py false), .int .u32 0] ne).trans (setRow_heap _ _ _ #[.int .i64 (bx1 px false), .int .i64 (bx2 px false), .int .i64 (bx1 py false), .int .i64 (bx2 py false), .int .u32 0] _ _ X6_38)
            have F7 := setRow_heap (v38.setRow (v36.heap.size) #[.int .i64 (bx1 px false), .int .i64 (bx2 px false), .int .i64 (bx1 py false), .int .i64 (bx2 py false), .int .u32 0]) (v37.heap.size) _ #[.int .i64 (bx1 px false), .int .i64 (bx2 px false), .int .i64 (bx1 py false), .int .i64 (bx2 py false), .int .u32 0] _ _ ((setRow_other _ _ _ _ (Ne.symm ne)).trans X7_38)
            have FB := below_setRow (below_setRow B38 l6 #[.int .i64 (bx1 px false), .int .i64 (bx2 px false), .int .i64 (bx1 py false), .int .i64 (bx2 py false), .int .u32 0]) l7 #[.int .i64 (bx1 px false), .int .i64 (bx2 px false), .int .i64 (bx1 py false), .int .i64 (bx2 py false), .int .u32 0]
            generalize (v38.setRow (v36.heap.size) #[.int .i64 (bx1 px false), .int .i64 (bx2 px false), .int .i64 (bx1 py false), .int .i64 (bx2 py false), .int .u32 0]).setRow (v37.heap.size) #[.int .i64 (bx1 px false), .int .i64 (bx2 px false), .int .i64 (bx1 py false), .int .i64 (bx2 py false), .int .u32 0] = W9 at *
            go_wp2_with fail
            go_meet
            exact ⟨_, _, rfl, rfl, Lib.hid ne, by omega, by omega, Lib.hid (HB1.out.trans (FB.mono HB1.out.size)), Lib.hid ((FB.block _ HWL.out).trans HX1.out), Lib.hid F6, Lib.hid F7⟩
        · go_simp
          obtain ⟨v39, e39⟩ : ∃ W, W = v36.alloc (.cells #[.int .i64 0, .int .i64 0, .int .i64 0, .int .i64 0, .int .u32 0] 51) := ⟨_, rfl⟩
          have hb39 : Below v36.heap.size v36 v39 := by rw [e39]; exact (Below.refl _ _).alloc (Nat.le_refl _) _
          have B39 := B36.trans (hb39.mono B36.size)
          have X7_39 : v39.heap[v36.heap.size]? = some (.cells #[.int .i64 0, .int .i64 0, .int .i64 0, .int .i64 0, .int .u32 0] 51 (0, 0) : Obj) := by rw [e39]; exact lit0 _ _
          have hs39 : v36.heap.size < v39.heap.size := (Array.getElem?_eq_some_iff.1 X7_39).1
          rw [← e39]
          clear e39
          refine hK _ _ (fun _ _ => ⟨⟨_, B39⟩, rfl⟩) ?_
          clear hK K
          refine wpAnyT_ready [10] (by kernel_rfl) (by simp) ?_
          refine AllReadyT.cons rfl (fun K hK => ?_) AllReadyT.nil
          · go_simp
            obtain ⟨v40, e40⟩ : ∃ W, W = v39.alloc (.cells #[.int .i64 0, .int .i64 0, .int .i64 0, .int .i64 0, .int .u32 0] 51) := ⟨_, rfl⟩
            have hb40 : Below v39.heap.size v39 v40 := by rw [e40]; exact (Below.refl _ _).alloc (Nat.le_refl _) _
            have B40 := B39.trans (hb40.mono B39.size)
            have X7_40 := (hb40.block _ (Array.getElem?_eq_some_iff.1 X7_39).1).trans X7_39
            have X6_40 : v40.heap[v39.heap.size]? = some (.cells #[.int .i64 0, .int .i64 0, .int .i64 0, .int .i64 0, .int .u32 0] 51 (0, 0) : Obj) := by rw [e40]; exact lit0 _ _
            have hs40 : v39.heap.size < v40.heap.size := (Array.getElem?_eq_some_iff.1 X6_40).1
            rw [← e40]
            clear e40
            refine hK _ _ (fun _ _ => ⟨⟨_, B40⟩, rfl⟩) ?_
            clear hK K
            have ne : v39.heap.size ≠ v36.heap.size := by omega
            have l6 : w1.heap.size ≤ v39.heap.size := by omega
            have l7 : w1.heap.size ≤ v36.heap.size := by omega
            refine wpAnyT_line [12, 13] _ _ _ (by kernel_rfl) ?_
            simp only [pick, List.filterMap_cons, List.filterMap_nil, List.getElem?_toArray, List.getElem?_cons_succ, List.getElem?_cons_zero]
            refine wpList_store_rowTo rfl 51 (.tmp 6) (.tmp 12) rfl rfl (v39.heap.size) #[.int .i64 (bx1 px false), .int .i64 (bx2 px false), .int .i64 (bx1 py false), .int .i64 (bx2 py false), .int .u32 0] rfl rfl _ _ X6_40 (by kernel_rfl) rfl (by simp [Value.oneCell']) ?_
            refine wpList_store_rowTo rfl 51 (.tmp 7) (.tmp 17) rfl rfl (v36.heap.size) #[.int .i64 (bx1 px false), .int .i64 (bx2 px false), .int .i64 (bx1 py false), .int .i64 (bx2 py false), .int .u32 0] rfl rfl _ _ ((setRow_other _ _ _ _ (Ne.symm ne)).trans X7_40) (by kernel_rfl) rfl (by simp [Value.oneCell']) ?_
            have F6 := (setRow_other (v40.setRow (v39.heap.size) #[.int .i64 (bx1 px false), .int .i64 (bx2 px false), .int .i64 (bx1 py false), .int .i64 (bx2 py false), .int .u32 0]) (v36.heap.size) (v39.heap.size) #[.int .i64 (bx1 px false), .int .i64 (bx2 px false), .int .i64 (bx1 py false), .int .i64 (bx2 py false), .int .u32 0] ne).trans (setRow_heap _ _ _ #[.int .i64 (bx1 px false), .int .i64 (bx2 px false), .int .i64 (bx1 py false), .int .i64 (bx2 py false), .int .u32 0] _ _ X6_40)
            have F7 := setRow_heap (v40.setRow (v39.heap.size) #[.int .i64 (bx1 px false), .int .i64 (bx2 px false), .int .i64 (bx1 py false), .int .i64 (bx2 py false), .int .u32 0]) (v36.heap.size) _ #[.int .i64 (bx1 px false), .int .i64 (bx2 px false), .int .i64 (bx1 py false), .int .i64 (bx2 py false), .int .u32 0] _ _ ((setRow_other _ _ _ _ (Ne.symm ne)).trans X7_40)
            have FB := below_setRow (below_setRow B40 l6 #[.int .i64 (bx1 px false), .int .i64 (bx2 px false), .int .i64 (bx1 py false), .int .i64 (bx2 py false), .int .u32 0]) l7 #[.int .i64 (bx1 px false), .int .i64 (bx2 px false), .int .i64 (bx1 py false), .int .i64 (bx2 py false), .int .u32 0]
            generalize (v40.setRow (v39.heap.size) #[.int .i64 (bx1 px false), .int .i64 (bx2 px false), .int .i64 (bx1 py false), .int .i64 (bx2 py false), .int .u32 0]).setRow (v36.heap.size) #[.int .i64 (bx1 px false), .int .i64 (bx2 px false), .int .i64 (bx1 py false), .int .i64 (bx2 py false), .int .u32 0] = W9 at *
            go_wp2_with fail
            go_meet
            exact ⟨_, _, rfl, rfl, Lib.hid ne, by omega, by omega, Lib.hid (HB1.out.trans (FB.mono HB1.out.size)), Lib.hid ((FB.block _ HWL.out).trans HX1.out), Lib.hid F6, Lib.hid F7⟩
      · go_simp
        obtain ⟨v41, e41⟩ : ∃ W, W = v35.alloc (.cells #[.int .i64 0, .int .i64 0, .int .i64 0, .int .i64 0, .int .u32 0] 51) := ⟨_, rfl⟩
        have hb41 : Below v35.heap.size v35 v41 := by rw [e41]; exact (Below.refl _ _).alloc (Nat.le_refl _) _
        have B41 := B35.trans (hb41.mono B35.size)
        have X6_41 : v41.heap[v35.heap.size]? = some (.cells #[.int .i64 0, .int .i64 0, .int .i64 0, .int .i64 0, .int .u32 0] 51 (0, 0) : Obj) := by rw [e41]; exact lit0 _ _
        have hs41 : v35.heap.size < v41.heap.size := (Array.getElem?_eq_some_iff.1 X6_41).1
        rw [← e41]
        clear e41
        refine hK _ _ (fun _ _ => ⟨⟨_, B41⟩, rfl⟩) ?_
        clear hK K
        refine wpAnyT_ready [9, 11] (by kernel_rfl) (by simp) ?_
        refine AllReadyT.cons rfl (fun K hK => ?_) (AllReadyT.cons rfl (fun K hK => ?_) AllReadyT.nil)
        · refine step_call ent_cbox rfl _ _ rfl (vals := #[.int .i64 px, .int .i64 py, .int .u8 0]) rfl (CB.out _) ?_
          rintro e v42 ⟨rfl, hb42⟩
          have B42 := B41.trans (hb42.mono B41.size)
          have X6_42 := (hb42.block _ (Array.getElem?_eq_some_iff.1 X6_41).1).trans X6_41
          have hs42 := hb42.size
          refine ⟨_, rfl, ?_⟩
          refine hK _ _ (fun _ _ => ⟨⟨_, B42⟩, rfl⟩) ?_
          clear hK K
          refine wpAnyT_ready [11] (by kernel_rfl) (by simp) ?_
          refine AllReadyT.cons rfl (fun K hK => ?_) AllReadyT.nil
          · go_simp
            obtain ⟨v43, e43⟩ : ∃ W, W = v42.alloc (.cells #[.int .i64 0, .int .i64 0, .int .i64 0, .int .i64 0, .int .u32 0] 51) := ⟨_, rfl⟩
            have hb43 : Below v42.heap.size v42 v43 := by rw [e43]; exact (Below.refl _ _).alloc (Nat.le_refl _) _
            have B43 := B42.trans (hb43.mono B42.size)
            have X6_43 := (hb43.block _ (Array.getElem?_eq_some_iff.1 X6_42).1).trans X6_42
            have X7_43 : v43.heap[v42.heap.size]? = some (.cells #[.int .i64 0, .int .i64 0, .int .i64 0, .int .i64 0, .int .u32 0] 51 (0, 0) : Obj) := by rw [e43]; exact lit0 _ _
            have hs43 : v42.heap.size < v43.heap.size := (Array.getElem?_eq_some_iff.1 X7_43).1
            rw [← e43]
            clear e43
            refine hK _ _ (fun _ _ => ⟨⟨_, B43⟩, rfl⟩) ?_
            clear hK K
            have ne : v35.heap.size ≠ v42.heap.size := by omega
            have l6 : w1.heap.size ≤ v35.heap.size := by omega
            have l7 : w1.heap.size ≤ v42.heap.size := by omega
            refine wpAnyT_line [12, 13] _ _ _ (by kernel_rfl) ?_
            simp only [pick, List.filterMap_cons, List.filterMap_nil, List.getElem?_toArray, List.getElem?_cons_succ, List.getElem?_cons_zero]
            refine wpList_store_rowTo rfl 51 (.tmp 6) (.tmp 12) rfl rfl (v35.heap.size) #[.int .i64 (bx1 px false), .int .i64 (bx2 px false), .int .i64 (bx1 py false), .int .i64 (bx2 py false), .int .u32 0] rfl rfl _ _ X6_43 (by kernel_rfl) rfl (by simp [Value.oneCell']) ?_
            refine wpList_store_rowTo rfl 51 (.tmp 7) (.tmp 17) rfl rfl (v42.heap.size) #[.int .i64 (bx1 px false), .int .i64 (bx2 px false), .int .i64 (bx1 py false), .int .i64 (bx2 py false), .int .u32 0] rfl rfl _ _ ((setRow_other _ _ _ _ (Ne.symm ne)).trans X7_43) (by kernel_rfl) rfl (by simp [Value.oneCell']) ?_
            have F6 := (setRow_other (v43.setRow (v35.heap.size) #[.int .i64 (bx1 px false), .int .i64 (bx2 px false), .int .i64 (bx1 py false), .int .i64 (bx2 py false), .int .u32 0]) (v42.heap.size) (v35.heap.size) #[.int .i64 (bx1 px false), .int .i64 (bx2 px false), .int .i64 (bx1 py false), .int .i64 (bx2 py false), .int .u32 0] ne).trans (setRow_heap _ _ _ #[.int .i64 (bx1 px false), .int .i64 (bx2 px false), .int .i64 (bx1 py false), .int .i64 (bx2 py false), .int .u32 0] _ _ X6_43)
            have F7 := setRow_heap (v43.setRow (v35.heap.size) #[.int .i64 (bx1 px false), .int .i64 (bx2 px false), .int .i64 (bx1 py false), .int .i64 (bx2 py false), .int .u32 0]) (v42.heap.size) _ #[.int .i64 (bx1 px false), .int .i64 (bx2 px false), .int .i64 (bx1 py false), .int .i64 (bx2 py false), .int .u32 0] _ _ ((setRow_other _ _ _ _ (Ne.symm ne)).trans X7_43)
            have FB := below_setRow (below_setRow B43 l6 #[.int .i64 (bx1 px false), .int .i64 (bx2 px false), .int .i64 (bx1 py false), .int .i64 (bx2 py false), .int .u32 0]) l7 #[.int .i64 (bx1 px false), .int .i64 (bx2 px false), .int .i64 (bx1 py false), .int .i64 (bx2 py false), .int .u32 0]
            generalize (v43.setRow (v35.heap.size) #[.int .i64 (bx1 px false), .int .i64 (bx2 px false), .int .i64 (bx1 py false), .int .i64 (bx2 py false), .int .u32 0]).setRow (v42.heap.size) #[.int .i64 (bx1 px false), .int .i64 (bx2 px false), .int .i64 (bx1 py false), .int .i64 (bx2 py false), .int .u32 0] = W9 at *
            go_wp2_with fail
            go_meet
            exact ⟨_, _, rfl, rfl, Lib.hid ne, by omega, by omega, Lib.hid (HB1.out.trans (FB.mono HB1.out.size)), Lib.hid ((FB.block _ HWL.out).trans HX1.out), Lib.hid F6, Lib.hid F7⟩
        · go_simp
          obtain ⟨v44, e44⟩ : ∃ W, W = v41.alloc (.cells #[.int .i64 0, .int .i64 0, .int .i64 0, .int .i64 0, .int .u32 0] 51) := ⟨_, rfl⟩
          have hb44 : Below v41.heap.size v41 v44 := by rw [e44]; exact (Below.refl _ _).alloc (Nat.le_refl _) _
          have B44 := B41.trans (hb44.mono B41.size)
          have X6_44 := (hb44.block _ (Array.getElem?_eq_some_iff.1 X6_41).1).trans X6_41
          have X7_44 : v44.heap[v41.heap.size]? = some (.cells #[.int .i64 0, .int .i64 0, .int .i64 0, .int .i64 0, .int .u32 0] 51 (0, 0) : Obj) := by rw [e44]; exact lit0 _ _
          have hs44 : v41.heap.size < v44.heap.size := (Array.getElem?_eq_some_iff.1 X7_44).1
          rw [← e44]
          clear e44
          refine hK _ _ (fun _ _ => ⟨⟨_, B44⟩, rfl⟩) ?_
          clear hK K
          refine wpAnyT_ready [9] (by kernel_rfl) (by simp) ?_
          refine AllReadyT.cons rfl (fun K hK => ?_) AllReadyT.nil
          · refine step_call ent_cbox rfl _ _ rfl (vals := #[.int .i64 px, .int .i64 py, .int .u8 0]) rfl (CB.out _) ?_
            rintro e v45 ⟨rfl, hb45⟩
            have B45 := B44.trans (hb45.mono B44.size)
            have X6_45 := (hb45.block _ (Array.getElem?_eq_some_iff.1 X6_44).1).trans X6_44
            have X7_45 := (hb45.block _ (Array.getElem?_eq_some_iff.1 X7_44).1).trans X7_44
            have hs45 := hb45.size
            refine ⟨_, rfl, ?_⟩
            refine hK _ _ (fun _ _ => ⟨⟨_, B45⟩, rfl⟩) ?_
            clear hK K
            have ne : v35.heap.size ≠ v41.heap.size := by omega
            have l6 : w1.heap.size ≤ v35.heap.size := by omega
            have l7 : w1.heap.size ≤ v41.heap.size := by omega
            refine wpAnyT_line [12, 13] _ _ _ (by kernel_rfl) ?_
            simp only [pick, List.filterMap_cons, List.filterMap_nil, List.getElem?_toArray, List.getElem?_cons_succ, List.getElem?_cons_zero]
            refine wpList_store_rowTo rfl 51 (.tmp 6) (.tmp 12) rfl rfl (v35.heap.size) #[.int .i64 (bx1 px false), .int .i64 (bx2 px false), .int .i64 (bx1 py false), .int .i64 (bx2 py false), .int .u32 0] rfl rfl _ _ X6_45 (by kernel_rfl) rfl (by simp [Value.oneCell']) ?_
            refine wpList_store_rowTo rfl 51 (.tmp 7) (.tmp 17) rfl rfl (v41.heap.size) #[.int .i64 (bx1 px false), .int .i64 (bx2 px false), .int .i64 (bx1 py false), .int .i64 (bx2 py false), .int .u32 0] rfl rfl _ _ ((setRow_other _ _ _ _ (Ne.symm ne)).trans X7_45) (by kernel_rfl) rfl (by simp [Value.oneCell']) ?_
            have F6 := (setRow_other (v45.setRow (v35.heap.size) #[.int .i64 (bx1 px false), .int .i64 (bx2 px false), .int .i64 (bx1 py false), .int .i64 (bx2 py false), .int .u32 0]) (v41.heap.size) (v35.heap.size) #[.int .i64 (bx1 px false), .int .i64 (bx2 px false), .int .i64 (bx1 py false), .int .i64 (bx2 py false), .int .u32 0] ne).trans (setRow_heap _ _ _ #[.int .i64 (bx1 px false), .int .i64 (bx2 px false), .int .i64 (bx1 py false), .int .i64 (bx2 py false), .int .u32 0] _ _ X6_45)
            have F7 := setRow_heap (v45.setRow (v35.heap.size) #[.int .i64 (bx1 px false), .int .i64 (bx2 px false), .int .i64 (bx1 py false), .int .i64 (bx2 py false), .int .u32 0]) (v41.heap.size) _ #[.int .i64 (bx1 px false), .int .i64 (bx2 px false), .int .i64 (bx1 py false), .int .i64 (bx2 py false), .int .u32 0] _ _ ((setRow_other _ _ _ _ (Ne.symm ne)).trans X7_45)
            have FB := below_setRow (below_setRow B45 l6 #[.int .i64 (bx1 px false), .int .i64 (bx2 px false), .int .i64 (bx1 py false), .int .i64 (bx2 py false), .int .u32 0]) l7 #[.int .i64 (bx1 px false), .int .i64 (bx2 px false), .int .i64 (bx1 py false), .int .i64 (bx2 py false), .int .u32 0]
            generalize (v45.setRow (v35.heap.size) #[.int .i64 (bx1 px false), .int .i64 (bx2 px false), .int .i64 (bx1 py false), .int .i64 (bx2 py false), .int .u32 0]).setRow (v41.heap.size) #[.int .i64 (bx1 px false), .int .i64 (bx2 px false), .int .i64 (bx1 py false), .int .i64 (bx2 py false), .int .u32 0] = W9 at *
            go_wp2_with fail
            go_meet
            exact ⟨_, _, rfl, rfl, Lib.hid ne, by omega, by omega, Lib.hid (HB1.out.trans (FB.mono HB1.out.size)), Lib.hid ((FB.block _ HWL.out).trans HX1.out), Lib.hid F6, Lib.hid F7⟩
      · go_simp
        obtain ⟨v46, e46⟩ : ∃ W, W = v35.alloc (.cells #[.int .i64 0, .int .i64 0, .int .i64 0, .int .i64 0, .int .u32 0] 51) := ⟨_, rfl⟩
        have hb46 : Below v35.heap.size v35 v46 := by rw [e46]; exact (Below.refl _ _).alloc (Nat.le_refl _) _
        have B46 := B35.trans (hb46.mono B35.size)
        have X7_46 : v46.heap[v35.heap.size]? = some (.cells #[.int .i64 0, .int .i64 0, .int .i64 0, .int .i64 0, .int .u32 0] 51 (0, 0) : Obj) := by rw [e46]; exact lit0 _ _
        have hs46 : v35.heap.size < v46.heap.size := (Array.getElem?_eq_some_iff.1 X7_46).1
        rw [← e46]
        clear e46
        refine hK _ _ (fun _ _ => ⟨⟨_, B46⟩, rfl⟩) ?_
        clear hK K
        refine wpAnyT_ready [9, 10] (by kernel_rfl) (by simp) ?_
        refine AllReadyT.cons rfl (fun K hK => ?_) (AllReadyT.cons rfl (fun K hK => ?_) AllReadyT.nil)
        · refine step_call ent_cbox rfl _ _ rfl (vals := #[.int .i64 px, .int .i64 py, .int .u8 0]) rfl (CB.out _) ?_
          rintro e v47 ⟨rfl, hb47⟩
          have B47 := B46.trans (hb47.mono B46.size)
          have X7_47 := (hb47.block _ (Array.getElem?_eq_some_iff.1 X7_46).1).trans X7_46
          have hs47 := hb47.size
          refine ⟨_, rfl, ?_⟩
          refine hK _ _ (fun _ _ => ⟨⟨_, B47⟩, rfl⟩) ?_
          clear hK K
          refine wpAnyT_ready [10] (by kernel_rfl) (by simp) ?_
          refine AllReadyT.cons rfl (fun K hK => ?_) AllReadyT.nil
          · go_simp
            obtain ⟨v48, e48⟩ : ∃ W, W = v47.alloc (.cells #[.int .i64 0, .int .i64 0, .int .i64 0, .int .i64 0, .int .u32 0] 51) := ⟨_, rfl⟩
            have hb48 : Below v47.heap.size v47 v48 := by rw [e48]; exact (Below.refl _ _).alloc (Nat.le_refl _) _
            have B48 := B47.trans (hb48.mono B47.size)
            have X7_48 := (hb48.block _ (Array.getElem?_eq_some_iff.1 X7_47).1).trans X7_47
            have X6_48 : v48.heap[v47.heap.size]? = some (.cells #[.int .i64 0, .int .i64 0, .int .i64 0, .int .i64 0, .int .u32 0] 51 (0, 0) : Obj) := by rw [e48]; exact lit0 _ _
            have hs48 : v47.heap.size < v48.heap.size := (Array.getElem?_eq_some_iff.1 X6_48).1
            rw [← e48]
            clear e48
            refine hK _ _ (fun _ _ => ⟨⟨_, B48⟩, rfl⟩) ?_
            clear hK K
            have ne : v47.heap.size ≠ v35.heap.size := by omega
            have l6 : w1.heap.size ≤ v47.heap.size := by omega
            have l7 : w1.heap.size ≤ v35.heap.size := by omega
            refine wpAnyT_line [12, 13] _ _ _ (by kernel_rfl) ?_
            simp only [pick, List.filterMap_cons, List.filterMap_nil, List.getElem?_toArray, List.getElem?_cons_succ, List.getElem?_cons_zero]
            refine wpList_store_rowTo rfl 51 (.tmp 6) (.tmp 12) rfl rfl (v47.heap.size) #[.int .i64 (bx1 px false), .int .i64 (bx2 px false), .int .i64 (bx1 py false), .int .i64 (bx2 py false), .int .u32 0] rfl rfl _ _ X6_48 (by kernel_rfl) rfl (by simp [Value.oneCell']) ?_
            refine wpList_store_rowTo rfl 51 (.tmp 7) (.tmp 17) rfl rfl (v35.heap.size) #[.int .i64 (bx1 px false), .int .i64 (bx2 px false), .int .i64 (bx1 py false), .int .i64 (bx2 py false), .int .u32 0] rfl rfl _ _ ((setRow_other _ _ _ _ (Ne.symm ne)).trans X7_48) (by kernel_rfl) rfl (by simp [Value.oneCell']) ?_
            have F6 := (setRow_other (v48.setRow (v47.heap.size) #[.int .i64 (bx1 px false), .int .i64 (bx2 px false), .int .i64 (bx1 py false), .int .i64 (bx2 py false), .int .u32 0]) (v35.heap.size) (v47.heap.size) #[.int .i64 (bx1 px false), .int .i64 (bx2 px false), .int .i64 (bx1 py false), .int .i64 (bx2 py false), .int .u32 0] ne).trans (setRow_heap _ _ _ #[.int .i64 (bx1 px false), .int .i64 (bx2 px false), .int .i64 (bx1 py false), .int .i64 (bx2 py false), .int .u32 0] _ _ X6_48)
            have F7 := setRow_heap (v48.setRow (v47.heap.size) #[.int .i64 (bx1 px false), .int .i64 (bx2 px false), .int .i64 (bx1 py false), .int .i64 (bx2 py false), .int .u32 0]) (v35.heap.size) _ #[.int .i64 (bx1 px false), .int .i64 (bx2 px false), .int .i64 (bx1 py false), .int .i64 (bx2 py false), .int .u32 0] _ _ ((setRow_other _ _ _ _ (Ne.symm ne)).trans X7_48)
            have FB := below_setRow (below_setRow B48 l6 #[.int .i64 (bx1 px false), .int .i64 (bx2 px false), .int .i64 (bx1 py false), .int .i64 (bx2 py false), .int .u32 0]) l7 #[.int .i64 (bx1 px false), .int .i64 (bx2 px false), .int .i64 (bx1 py false), .int .i64 (bx2 py false), .int .u32 0]
            generalize (v48.setRow (v47.heap.size) #[.int .i64 (bx1 px false), .int .i64 (bx2 px false), .int .i64 (bx1 py false), .int .i64 (bx2 py false), .int .u32 0]).setRow (v35.heap.size) #[.int .i64 (bx1 px false), .int .i64 (bx2 px false), .int .i64 (bx1 py false), .int .i64 (bx2 py false), .int .u32 0] = W9 at *
            go_wp2_with fail
            go_meet
            exact ⟨_, _, rfl, rfl, Lib.hid ne, by omega, by omega, Lib.hid (HB1.out.trans (FB.mono HB1.out.size)), Lib.hid ((FB.block _ HWL.out).trans HX1.out), Lib.hid F6, Lib.hid F7⟩
        · go_simp
          obtain ⟨v49, e49⟩ : ∃ W, W = v46.alloc (.cells #[.int .i64 0, .int .i64 0, .int .i64 0, .int .i64 0, .int .u32 0] 51) := ⟨_, rfl⟩
          have hb49 : Below v46.heap.size v46 v49 := by rw [e49]; exact (Below.refl _ _).alloc (Nat.le_refl _) _
          have B49 := B46.trans (hb49.mono B46.size)
          have X7_49 := (hb49.block _ (Array.getElem?_eq_some_iff.1 X7_46).1).trans X7_46
          have X6_49 : v49.heap[v46.heap.size]? = some (.cells #[.int .i64 0, .int .i64 0, .int .i64 0, .int .i64 0, .int .u32 0] 51 (0, 0) : Obj) := by rw [e49]; exact lit0 _ _
          have hs49 : v46.heap.size < v49.heap.size := (Array.getElem?_eq_some_iff.1 X6_49).1
          rw [← e49]
          clear e49
          refine hK _ _ (fun _ _ => ⟨⟨_, B49⟩, rfl⟩) ?_
          clear hK K
          refine wpAnyT_ready [9] (by kernel_rfl) (by simp) ?_
          refine AllReadyT.cons rfl (fun K hK => ?_) AllReadyT.nil
          · refine step_call ent_cbox rfl _ _ rfl (vals := #[.int .i64 px, .int .i64 py, .int .u8 0]) rfl (CB.out _) ?_
            rintro e v50 ⟨rfl, hb50⟩
            have B50 := B49.trans (hb50.mono B49.size)
            have X7_50 := (hb50.block _ (Array.getElem?_eq_some_iff.1 X7_49).1).trans X7_49
            have X6_50 := (hb50.block _ (Array.getElem?_eq_some_iff.1 X6_49).1).trans X6_49
            have hs50 := hb50.size
            refine ⟨_, rfl, ?_⟩
            refine hK _ _ (fun _ _ => ⟨⟨_, B50⟩, rfl⟩) ?_
            clear hK K
            have ne : v46.heap.size ≠ v35.heap.size := by omega
            have l6 : w1.heap.size ≤ v46.heap.size := by omega
            have l7 : w1.heap.size ≤ v35.heap.size := by omega
            refine wpAnyT_line [12, 13] _ _ _ (by kernel_rfl) ?_
            simp only [pick, List.filterMap_cons, List.filterMap_nil, List.getElem?_toArray, List.getElem?_cons_succ, List.getElem?_cons_zero]
            refine wpList_store_rowTo rfl 51 (.tmp 6) (.tmp 12) rfl rfl (v46.heap.size) #[.int .i64 (bx1 px false), .int .i64 (bx2 px false), .int .i64 (bx1 py false), .int .i64 (bx2 py false), .int .u32 0] rfl rfl _ _ X6_50 (by kernel_rfl) rfl (by simp [Value.oneCell']) ?_
            refine wpList_store_rowTo rfl 51 (.tmp 7) (.tmp 17) rfl rfl (v35.heap.size) #[.int .i64 (bx1 px false), .int .i64 (bx2 px false), .int .i64 (bx1 py false), .int .i64 (bx2 py false), .int .u32 0] rfl rfl _ _ ((setRow_other _ _ _ _ (Ne.symm ne)).trans X7_50) (by kernel_rfl) rfl (by simp [Value.oneCell']) ?_
            have F6 := (setRow_other (v50.setRow (v46.heap.size) #[.int .i64 (bx1 px false), .int .i64 (bx2 px false), .int .i64 (bx1 py false), .int .i64 (bx2 py false), .int .u32 0]) (v35.heap.size) (v46.heap.size) #[.int .i64 (bx1 px false), .int .i64 (bx2 px false), .int .i64 (bx1 py false), .int .i64 (bx2 py false), .int .u32 0] ne).trans (setRow_heap _ _ _ #[.int .i64 (bx1 px false), .int .i64 (bx2 px false), .int .i64 (bx1 py false), .int .i64 (bx2 py false), .int .u32 0] _ _ X6_50)
            have F7 := setRow_heap (v50.setRow (v46.heap.size) #[.int .i64 (bx1 px false), .int .i64 (bx2 px false), .int .i64 (bx1 py false), .int .i64 (bx2 py false), .int .u32 0]) (v35.heap.size) _ #[.int .i64 (bx1 px false), .int .i64 (bx2 px false), .int .i64 (bx1 py false), .int .i64 (bx2 py false), .int .u32 0] _ _ ((setRow_other _ _ _ _ (Ne.symm ne)).trans X7_50)
            have FB := below_setRow (below_setRow B50 l6 #[.int .i64 (bx1 px false), .int .i64 (bx2 px false), .int .i64 (bx1 py false), .int .i64 (bx2 py false), .int .u32 0]) l7 #[.int .i64 (bx1 px false), .int .i64 (bx2 px false), .int .i64 (bx1 py false), .int .i64 (bx2 py false), .int .u32 0]
            generalize (v50.setRow (v46.heap.size) #[.int .i64 (bx1 px false), .int .i64 (bx2 px false), .int .i64 (bx1 py false), .int .i64 (bx2 py false), .int .u32 0]).setRow (v35.heap.size) #[.int .i64 (bx1 px false), .int .i64 (bx2 px false), .int .i64 (bx1 py false), .int .i64 (bx2 py false), .int .u32 0] = W9 at *
            go_wp2_with fail
            go_meet
            exact ⟨_, _, rfl, rfl, Lib.hid ne, by omega, by omega, Lib.hid (HB1.out.trans (FB.mono HB1.out.size)), Lib.hid ((FB.block _ HWL.out).trans HX1.out), Lib.hid F6, Lib.hid F7⟩
    · go_simp
      obtain ⟨v51, e51⟩ : ∃ W, W = w0.alloc (.cells #[.int .i64 0, .int .i64 0, .int .i64 0, .int .i64 0, .int .u32 0] 51) := ⟨_, rfl⟩
      have hb51 : Below w0.heap.size w0 v51 := by rw [e51]; exact (Below.refl _ _).alloc (Nat.le_refl _) _
      have B51 := B0.trans (hb51.mono B0.size)
      have X6_51 : v51.heap[w0.heap.size]? = some (.cells #[.int .i64 0, .int .i64 0, .int .i64 0, .int .i64 0, .int .u32 0] 51 (0, 0) : Obj) := by rw [e51]; exact lit0 _ _
      have hs51 : w0.heap.size < v51.heap.size := (Array.getElem?_eq_some_iff.1 X6_51).1
      rw [← e51]
      clear e51
      refine hK _ _ (fun _ _ => ⟨⟨_, B51⟩, rfl⟩) ?_
      clear hK K
      refine wpAnyT_ready [4, 11] (by kernel_rfl) (by simp) ?_
      refine AllReadyT.cons rfl (fun K hK => ?_) (AllReadyT.cons rfl (fun K hK => ?_) AllReadyT.nil)
      · refine step_call ent_cbox rfl _ _ rfl (vals := #[.int .i64 px, .int .i64 py, .int .u8 0]) rfl (CB.out _) ?_
        rintro e v52 ⟨rfl, hb52⟩
        have B52 := B51.trans (hb52.mono B51.size)
        have X6_52 := (hb52.block _ (Array.getElem?_eq_some_iff.1 X6_51).1).trans X6_51
        have hs52 := hb52.size
        refine ⟨_, rfl, ?_⟩
        refine hK _ _ (fun _ _ => ⟨⟨_, B52⟩, rfl⟩) ?_
        clear hK K
        refine wpAnyT_ready [9, 11] (by kernel_rfl) (by simp) ?_
        refine AllReadyT.cons rfl (fun K hK => ?_) (AllReadyT.cons rfl (fun K hK => ?_) AllReadyT.nil)
        · refine step_call ent_cbox rfl _ _ rfl (vals := #[.int .i64 px, .int .i64 py, .int .u8 0]) rfl (CB.out _) ?_
          rintro e v53 ⟨rfl, hb53⟩
          have B53 := B52.trans (hb53.mono B52.size)
          have X6_53 := (hb53.block _ (Array.getElem?_eq_some_iff.1 X6_52).1).trans X6_52
          have hs53 := hb53.size
          refine ⟨_, rfl, ?_⟩
          refine hK _ _ (fun _ _ => ⟨⟨_, B53⟩, rfl⟩) ?_
          clear hK K
          refine wpAnyT_ready [11] (by kernel_rfl) (by simp) ?_
          refine AllReadyT.cons rfl (fun K hK => ?_) AllReadyT.nil
          · go_simp
            obtain ⟨v54, e54⟩ : ∃ W, W = v53.alloc (.cells #[.int .i64 0, .int .i64 0, .int .i64 0, .int .i64 0, .int .u32 0] 51) := ⟨_, rfl⟩
            have hb54 : Below v53.heap.size v53 v54 := by rw [e54]; exact (Below.refl _ _).alloc (Nat.le_refl _) _
            have B54 := B53.trans (hb54.mono B53.size)
            have X6_54 := (hb54.block _ (Array.getElem?_eq_some_iff.1 X6_53).1).trans X6_53
            have X7_54 : v54.heap[v53.heap.size]? = some (.cells #[.int .i64 0, .int .i64 0, .int .i64 0, .int .i64 0, .int .u32 0] 51 (0, 0) : Obj) := by rw [e54]; exact lit0 _ _
            have hs54 : v53.heap.size < v54.heap.size := (Array.getElem?_eq_some_iff.1 X7_54).1
            rw [← e54]
            clear e54
            refine hK _ _ (fun _ _ => ⟨⟨_, B54⟩, rfl⟩) ?_
            clear hK K
            have ne : w0.heap.size ≠ v53.heap.size := by omega
            have l6 : w1.heap.size ≤ w0.heap.size := by omega
            have l7 : w1.heap.size ≤ v53.heap.size := by omega
            refine wpAnyT_line [12, 13] _ _ _ (by kernel_rfl) ?_
            simp only [pick, List.filterMap_cons, List.filterMap_nil, List.getElem?_toArray, List.getElem?_cons_succ, List.getElem?_cons_zero]
            refine wpList_store_rowTo rfl 51 (.tmp 6) (.tmp 12) rfl rfl (w0.heap.size) #[.int .i64 (bx1 px false), .int .i64 (bx2 px false), .int .i64 (bx1 py false), .int .i64 (bx2 py false), .int .u32 0] rfl rfl _ _ X6_54 (by kernel_rfl) rfl (by simp [Value.oneCell']) ?_
            refine wpList_store_rowTo rfl 51 (.tmp 7) (.tmp 17) rfl rfl (v53.heap.size) #[.int .i64 (bx1 px false), .int .i64 (bx2 px false), .int .i64 (bx1 py false), .int .i64 (bx2 py false), .int .u32 0] rfl rfl _ _ ((setRow_other _ _ _ _ (Ne.symm ne)).trans X7_54) (by kernel_rfl) rfl (by simp [Value.oneCell']) ?_
            have F6 := (setRow_other (v54.setRow (w0.heap.size) #[.int .i64 (bx1 px false), .int .i64 (bx2 px false), .int .i64 (bx1 py false), .int .i64 (bx2 py false), .int .u32 0]) (v53.heap.size) (w0.heap.size) #[.int .i64 (bx1 px false), .int .i64 (bx2 px false), .int .i64 (bx1 py false), .int .i64 (bx2 py false), .int .u32 0] ne).trans (setRow_heap _ _ _ #[.int .i64 (bx1 px false), .int .i64 (bx2 px false), .int .i64 (bx1 py false), .int .i64 (bx2 py false), .int .u32 0] _ _ X6_54)
            have F7 := setRow_heap (v54.setRow (w0.heap.size) #[.int .i64 (bx1 px false), .int .i64 (bx2 px false), .int .i64 (bx1 py false), .int .i64 (bx2 py false), .int .u32 0]) (v53.heap.size) _ #[.int .i64 (bx1 px false), .int .i64 (bx2 px false), .int .i64 (bx1 py false), .int .i64 (bx2 py false), .int .u32 0] _ _ ((setRow_other _ _ _ _ (Ne.symm ne)).trans X7_54)
            have FB := below_setRow (below_setRow B54 l6 #[.int .i64 (bx1 px false), .int .i64 (bx2 px false), .int .i64 (bx1 py false), .int .i64 (bx2 py false), .int .u32 0]) l7 #[.int .i64 (bx1 px false), .int .i64 (bx2 px false), .int .i64 (bx1 py false), .int .i64 (bx2 py false), .int .u32 0]
            generalize (v54.setRow (w0.heap.size) #[.int .i64 (bx1 px false), .int .i64 (bx2 px false), .int .i64 (bx1 py false), .int .i64 (bx2 py false), .int .u32 0]).setRow (v53.heap.size) #[.int .i64 (bx1 px false), .int .i64 (bx2 px false), .int .i64 (bx1 py false), .int .i64 (bx2 py false), .int .u32 0] = W9 at *
            go_wp2_with fail
            go_meet
            exact ⟨_, _, rfl, rfl, Lib.hid ne, by omega, by omega, Lib.hid (HB1.out.trans (FB.mono HB1.out.size)), Lib.hid ((FB.block _ HWL.out).trans HX1.out), Lib.hid F6, Lib.hid F7⟩
        · go_simp
          obtain ⟨v55, e55⟩ : ∃ W, W = v52.alloc (.cells #[.int .i64 0, .int .i64 0, .int .i64 0, .int .i64 0, .int .u32 0] 51) := ⟨_, rfl⟩
          have hb55 : Below v52.heap.size v52 v55 := by rw [e55]; exact (Below.refl _ _).alloc (Nat.le_refl _) _
          have B55 := B52.trans (hb55.mono B52.size)
          have X6_55 := (hb55.block _ (Array.getElem?_eq_some_iff.1 X6_52).1).trans X6_52
          have X7_55 : v55.heap[v52.heap.size]? = some (.cells #[.int .i64 0, .int .i64 0, .int .i64 0, .int .i64 0, .int .u32 0] 51 (0, 0) : Obj) := by rw [e55]; exact lit0 _ _
          have hs55 : v52.heap.size < v55.heap.size := (Array.getElem?_eq_some_iff.1 X7_55).1
          rw [← e55]
          clear e55
          refine hK _ _ (fun _ _ => ⟨⟨_, B55⟩, rfl⟩) ?_
          clear hK K
          refine wpAnyT_ready [9] (by kernel_rfl) (by simp) ?_
          refine AllReadyT.cons rfl (fun K hK => ?_) AllReadyT.nil
          · refine step_call ent_cbox rfl _ _ rfl (vals := #[.int .i64 px, .int .i64 py, .int .u8 0]) rfl (CB.out _) ?_
            rintro e v56 ⟨rfl, hb56⟩
            have B56 := B55.trans (hb56.mono B55.size)
            have X6_56 := (hb56.block _ (Array.getElem?_eq_some_iff.1 X6_55).1).trans X6_55
            have X7_56 := (hb56.block _ (Array.getElem?_eq_some_iff.1 X7_55).1).trans X7_55
            have hs56 := hb56.size
            refine ⟨_, rfl, ?_⟩
            refine hK _ _ (fun _ _ => ⟨⟨_, B56⟩, rfl⟩) ?_
            clear hK K
            have ne : w0.heap.size ≠ v52.heap.size := by omega
            have l6 : w1.heap.size ≤ w0.heap.size := by omega
            have l7 : w1.heap.size ≤ v52.heap.size := by omega
            refine wpAnyT_line [12, 13] _ _ _ (by kernel_rfl) ?_
            simp only [pick, List.filterMap_cons, List.filterMap_nil, List.getElem?_toArray, List.getElem?_cons_succ, List.getElem?_cons_zero]
            refine wpList_store_rowTo rfl 51 (.tmp 6) (.tmp 12) rfl rfl (w0.heap.size) #[.int .i64 (bx1 px false), .int .i64 (bx2 px false), .int .i64 (bx1 py false), .int .i64 (bx2 py false), .int .u32 0] rfl rfl _ _ X6_56 (by kernel_rfl) rfl (by simp [Value.oneCell']) ?_
            refine wpList_store_rowTo rfl 51 (.tmp 7) (.tmp 17) rfl rfl (v52.heap.size) #[.int .i64 (bx1 px false), .int .i64 (bx2 px false), .int .i64 (bx1 py false), .int .i64 (bx2 py false), .int .u32 0] rfl rfl _ _ ((setRow_other _ _ _ _ (Ne.symm ne)).trans X7_56) (by kernel_rfl) rfl (by simp [Value.oneCell']) ?_
            have F6 := (setRow_other (v56.setRow (w0.heap.size) #[.int .i64 (bx1 px false), .int .i64 (bx2 px false), .int .i64 (bx1 py false), .int .i64 (bx2 py false), .int .u32 0]) (v52.heap.size) (w0.heap.size) #[.int .i64 (bx1 px false), .int .i64 (bx2 px false), .int .i64 (bx1 py false), .int .i64 (bx2 py false), .int .u32 0] ne).trans (setRow_heap _ _ _ #[.int .i64 (bx1 px false), .int .i64 (bx2 px false), .int .i64 (bx1 py false), .int .i64 (bx2 py false), .int .u32 0] _ _ X6_56)
            have F7 := setRow_heap (v56.setRow (w0.heap.size) #[.int .i64 (bx1 px false), .int .i64 (bx2 px false), .int .i64 (bx1 py false), .int .i64 (bx2 py false), .int .u32 0]) (v52.heap.size) _ #[.int .i64 (bx1 px false), .int .i64 (bx2 px false), .int .i64 (bx1 py false), .int .i64 (bx2 py false), .int .u32 0] _ _ ((setRow_other _ _ _ _ (Ne.symm ne)).trans X7_56)
            have FB := below_setRow (below_setRow B56 l6 #[.int .i64 (bx1 px false), .int .i64 (bx2 px false), .int .i64 (bx1 py false), .int .i64 (bx2 py false), .int .u32 0]) l7 #[.int .i64 (bx1 px false), .int .i64 (bx2 px false), .int .i64 (bx1 py false), .int .i64 (bx2 py false), .int .u32 0]
            generalize (v56.setRow (w0.heap.size) #[.int .i64 (bx1 px false), .int .i64 (bx2 px false), .int .i64 (bx1 py false), .int .i64 (bx2 py false), .int .u32 0]).setRow (v52.heap.size) #[.int .i64 (bx1 px false), .int .i64 (bx2 px false), .int .i64 (bx1 py false), .int .i64 (bx2 py false), .int .u32 0] = W9 at *
            go_wp2_with fail
            go_meet
            exact ⟨_, _, rfl, rfl, Lib.hid ne, by omega, by omega, Lib.hid (HB1.out.trans (FB.mono HB1.out.size)), Lib.hid ((FB.block _ HWL.out).trans HX1.out), Lib.hid F6, Lib.hid F7⟩
      · go_simp
        obtain ⟨v57, e57⟩ : ∃ W, W = v51.alloc (.cells #[.int .i64 0, .int .i64 0, .int .i64 0, .int .i64 0, .int .u32 0] 51) := ⟨_, rfl⟩
        have hb57 : Below v51.heap.size v51 v57 := by rw [e57]; exact (Below.refl _ _).alloc (Nat.le_refl _) _
        have B57 := B51.trans (hb57.mono B51.size)
        have X6_57 := (hb57.block _ (Array.getElem?_eq_some_iff.1 X6_51).1).trans X6_51
        have X7_57 : v57.heap[v51.heap.size]? = some (.cells #[.int .i64 0, .int .i64 0, .int .i64 0, .int .i64 0, .int .u32 0] 51 (0, 0) : Obj) := by rw [e57]; exact lit0 _ _
        have hs57 : v51.heap.size < v57.heap.size := (Array.getElem?_eq_some_iff.1 X7_57).1
        rw [← e57]
        clear e57
        refine hK _ _ (fun _ _ => ⟨⟨_, B57⟩, rfl⟩) ?_
        clear hK K
        refine wpAnyT_ready [4] (by kernel_rfl) (by simp) ?_
        refine AllReadyT.cons rfl (fun K hK => ?_) AllReadyT.nil
        · refine step_call ent_cbox rfl _ _ rfl (vals := #[.int .i64 px, .int .i64 py, .int .u8 0]) rfl (CB.out _) ?_
          rintro e v58 ⟨rfl, hb58⟩
          have B58 := B57.trans (hb58.mono B57.size)
          have X6_58 := (hb58.block _ (Array.getElem?_eq_some_iff.1 X6_57).1).trans X6_57
          have X7_58 := (hb58.block _ (Array.getElem?_eq_some_iff.1 X7_57).1).trans X7_57
          have hs58 := hb58.size
          refine ⟨_, rfl, ?_⟩
          refine hK _ _ (fun _ _ => ⟨⟨_, B58⟩, rfl⟩) ?_
          clear hK K
          refine wpAnyT_ready [9] (by kernel_rfl) (by simp) ?_
          refine AllReadyT.cons rfl (fun K hK => ?_) AllReadyT.nil
          · refine step_call ent_cbox rfl _ _ rfl (vals := #[.int .i64 px, .int .i64 py, .int .u8 0]) rfl (CB.out _) ?_
            rintro e v59 ⟨rfl, hb59⟩
            have B59 := B58.trans (hb59.mono B58.size)
            have X6_59 := (hb59.block _ (Array.getElem?_eq_some_iff.1 X6_58).1).trans X6_58
            have X7_59 := (hb59.block _ (Array.getElem?_eq_some_iff.1 X7_58).1).trans X7_58
            have hs59 := hb59.size
            refine ⟨_, rfl, ?_⟩
            refine hK _ _ (fun _ _ => ⟨⟨_, B59⟩, rfl⟩) ?_
            clear hK K
            have ne : w0.heap.size ≠ v51.heap.size := by omega
            have l6 : w1.heap.size ≤ w0.heap.size := by omega
            have l7 : w1.heap.size ≤ v51.heap.size := by omega
            refine wpAnyT_line [12, 13] _ _ _ (by kernel_rfl) ?_
            simp only [pick, List.filterMap_cons, List.filterMap_nil, List.getElem?_toArray, List.getElem?_cons_succ, List.getElem?_cons_zero]
            refine wpList_store_rowTo rfl 51 (.tmp 6) (.tmp 12) rfl rfl (w0.heap.size) #[.int .i64 (bx1 px false), .int .i64 (bx2 px false), .int .i64 (bx1 py false), .int .i64 (bx2 py false), .int .u32 0] rfl rfl _ _ X6_59 (by kernel_rfl) rfl (by simp [Value.oneCell']) ?_
            refine wpList_store_rowTo rfl 51 (.tmp 7) (.tmp 17) rfl rfl (v51.heap.size) #[.int .i64 (bx1 px false), .int .i64 (bx2 px false), .int .i64 (bx1 py false), .int .i64 (bx2 py false), .int .u32 0] rfl rfl _ _ ((setRow_other _ _ _ _ (Ne.symm ne)).trans X7_59) (by kernel_rfl) rfl (by simp [Value.oneCell']) ?_
            have F6 := (setRow_other (v59.setRow (w0.heap.size) #[.int .i64 (bx1 px false), .int .i64 (bx2 px false), .int .i64 (bx1 py false), .int .i64 (bx2 py false), .int .u32 0]) (v51.heap.size) (w0.heap.size) #[.int .i64 (bx1 px false), .int .i64 (bx2 px false), .int .i64 (bx1 py false), .int .i64 (bx2 py false), .int .u32 0] ne).trans (setRow_heap _ _ _ #[.int .i64 (bx1 px false), .int .i64 (bx2 px false), .int .i64 (bx1 py false), .int .i64 (bx2 py false), .int .u32 0] _ _ X6_59)
            have F7 := setRow_heap (v59.setRow (w0.heap.size) #[.int .i64 (bx1 px false), .int .i64 (bx2 px false), .int .i64 (bx1 py false), .int .i64 (bx2 py false), .int .u32 0]) (v51.heap.size) _ #[.int .i64 (bx1 px false), .int .i64 (bx2 px false), .int .i64 (bx1 py false), .int .i64 (bx2 py false), .int .u32 0] _ _ ((setRow_other _ _ _ _ (Ne.symm ne)).trans X7_59)
            have FB := below_setRow (below_setRow B59 l6 #[.int .i64 (bx1 px false), .int .i64 (bx2 px false), .int .i64 (bx1 py false), .int .i64 (bx2 py false), .int .u32 0]) l7 #[.int .i64 (bx1 px false), .int .i64 (bx2 px false), .int .i64 (bx1 py false), .int .i64 (bx2 py false), .int .u32 0]
            generalize (v59.setRow (w0.heap.size) #[.int .i64 (bx1 px false), .int .i64 (bx2 px false), .int .i64 (bx1 py false), .int .i64 (bx2 py false), .int .u32 0]).setRow (v51.heap.size) #[.int .i64 (bx1 px false), .int .i64 (bx2 px false), .int .i64 (bx1 py false), .int .i64 (bx2 py false), .int .u32 0] = W9 at *
            go_wp2_with fail
            go_meet
            exact ⟨_, _, rfl, rfl, Lib.hid ne, by omega, by omega, Lib.hid (HB1.out.trans (FB.mono HB1.out.size)), Lib.hid ((FB.block _ HWL.out).trans HX1.out), Lib.hid F6, Lib.hid F7⟩
    · go_simp
      obtain ⟨v60, e60⟩ : ∃ W, W = w0.alloc (.cells #[.int .i64 0, .int .i64 0, .int .i64 0, .int .i64 0, .int .u32 0] 51) := ⟨_, rfl⟩
      have hb60 : Below w0.heap.size w0 v60 := by rw [e60]; exact (Below.refl _ _).alloc (Nat.le_refl _) _
      have B60 := B0.trans (hb60.mono B0.size)
      have X7_60 : v60.heap[w0.heap.size]? = some (.cells #[.int .i64 0, .int .i64 0, .int .i64 0, .int .i64 0, .int .u32 0] 51 (0, 0) : Obj) := by rw [e60]; exact lit0 _ _
      have hs60 : w0.heap.size < v60.heap.size := (Array.getElem?_eq_some_iff.1 X7_60).1
      rw [← e60]
      clear e60
      refine hK _ _ (fun _ _ => ⟨⟨_, B60⟩, rfl⟩) ?_
      clear hK K
      refine wpAnyT_ready [4, 10] (by kernel_rfl) (by simp) ?_
      refine AllReadyT.cons rfl (fun K hK => ?_) (AllReadyT.cons rfl (fun K hK => ?_) AllReadyT.nil)
      · refine step_call ent_cbox rfl _ _ rfl (vals := #[.int .i64 px, .int .i64 py, .int .u8 0]) rfl (CB.out _) ?_
        rintro e v61 ⟨rfl, hb61⟩
        have B61 := B60.trans (hb61.mono B60.size)
        have X7_61 := (hb61.block _ (Array.getElem?_eq_some_iff.1 X7_60).1).trans X7_60
        have hs61 := hb61.size
        refine ⟨_, rfl, ?_⟩
        refine hK _ _ (fun _ _ => ⟨⟨_, B61⟩, rfl⟩) ?_
        clear hK K
        refine wpAnyT_ready [9, 10] (by kernel_rfl) (by simp) ?_
        refine AllReadyT.cons rfl (fun K hK => ?_) (AllReadyT.cons rfl (fun K hK => ?_) AllReadyT.nil)
        · refine step_call ent_cbox rfl _ _ rfl (vals := #[.int .i64 px, .int .i64 py, .int .u8 0]) rfl (CB.out _) ?_
          rintro e v62 ⟨rfl, hb62⟩
          have B62 := B61.trans (hb62.mono B61.size)
          have X7_62 := (hb62.block _ (Array.getElem?_eq_some_iff.1 X7_61).1).trans X7_61
          have hs62 := hb62.size
          refine ⟨_, rfl, ?_⟩
          refine hK _ _ (fun _ _ => ⟨⟨_, B62⟩, rfl⟩) ?_
          clear hK K
          refine wpAnyT_ready [10] (by kernel_rfl) (by simp) ?_
          refine AllReadyT.cons rfl (fun K hK => ?_) AllReadyT.nil
          · go_simp
            obtain ⟨v63, e63⟩ : ∃ W, W = v62.alloc (.cells #[.int .i64 0, .int .i64 0, .int .i64 0, .int .i64 0, .int .u32 0] 51) := ⟨_, rfl⟩
            have hb63 : Below v62.heap.size v62 v63 := by rw [e63]; exact (Below.refl _ _).alloc (Nat.le_refl _) _
            have B63 := B62.trans (hb63.mono B62.size)
            have X7_63 := (hb63.block _ (Array.getElem?_eq_some_iff.1 X7_62).1).trans X7_62
            have X6_63 : v63.heap[v62.heap.size]? = some (.cells #[.int .i64 0, .int .i64 0, .int .i64 0, .int .i64 0, .int .u32 0] 51 (0, 0) : Obj) := by rw [e63]; exact lit0 _ _
            have hs63 : v62.heap.size < v63.heap.size := (Array.getElem?_eq_some_iff.1 X6_63).1
            rw [← e63]
            clear e63
            refine hK _ _ (fun _ _ => ⟨⟨_, B63⟩, rfl⟩) ?_
            clear hK K
            have ne : v62.heap.size ≠ w0.heap.size := by omega
            have l6 : w1.heap.size ≤ v62.heap.size := by omega
            have l7 : w1.heap.size ≤ w0.heap.size := by omega
            refine wpAnyT_line [12, 13] _ _ _ (by kernel_rfl) ?_
            simp only [pick, List.filterMap_cons, List.filterMap_nil, List.getElem?_toArray, List.getElem?_cons_succ, List.getElem?_cons_zero]
            refine wpList_store_rowTo rfl 51 (.tmp 6) (.tmp 12) rfl rfl (v62.heap.size) #[.int .i64 (bx1 px false), .int .i64 (bx2 px false), .int .i64 (bx1 py false), .int .i64 (bx2 py false), .int .u32 0] rfl rfl _ _ X6_63 (by kernel_rfl) rfl (by simp [Value.oneCell']) ?_
            refine wpList_store_rowTo rfl 51 (.tmp 7) (.tmp 17) rfl rfl (w0.heap.size) #[.int .i64 (bx1 px false), .int .i64 (bx2 px false), .int .i64 (bx1 py false), .int .i64 (bx2 py false), .int .u32 0] rfl rfl _ _ ((setRow_other _ _ _ _ (Ne.symm ne)).trans X7_63) (by kernel_rfl) rfl (by simp [Value.oneCell']) ?_
            have F6 := (setRow_other (v63.setRow (v62.heap.size) #[.int .i64 (bx1 px false), .int .i64 (bx2 px false), .int .i64 (bx1 py false), .int .i64 (bx2 py false), .int .u32 0]) (w0.heap.size) (v62.heap.size) #[.int .i64 (bx1 px false), .int .i64 (bx2 px false), .int .i64 (bx1 py false), .int .i64 (bx2 py false), .int .u32 0] ne).trans (setRow_heap _ _ _ #[.int .i64 (bx1 px false), .int .i64 (bx2 px false), .int .i64 (bx1 py false), .int .i64 (bx2 py false), .int .u32 0] _ _ X6_63)
            have F7 := setRow_heap (v63.setRow (v62.heap.size) #[.int .i64 (bx1 px false), .int .i64 (bx2 px false), .int .i64 (bx1 py false), .int .i64 (bx2 py false), .int .u32 0]) (w0.heap.size) _ #[.int .i64 (bx1 px false), .int .i64 (bx2 px false), .int .i64 (bx1 py false), .int .i64 (bx2 py false), .int .u32 0] _ _ ((setRow_other _ _ _ _ (Ne.symm ne)).trans X7_63)
            have FB := below_setRow (below_setRow B63 l6 #[.int .i64 (bx1 px false), .int .i64 (bx2 px false), .int .i64 (bx1 py false), .int .i64 (bx2 py false), .int .u32 0]) l7 #[.int .i64 (bx1 px false), .int .i64 (bx2 px false), .int .i64 (bx1 py false), .int .i64 (bx2 py false), .int .u32 0]
            generalize (v63.setRow (v62.heap.size) #[.int .i64 (bx1 px false), .int .i64 (bx2 px false), .int .i64 (bx1 py false), .int .i64 (bx2 py false), .int .u32 0]).setRow (w0.heap.size) #[.int .i64 (bx1 px false), .int .i64 (bx2 px false), .int .i64 (bx1 py false), .int .i64 (bx2 py false), .int .u32 0] = W9 at *
            go_wp2_with fail
            go_meet
            exact ⟨_, _, rfl, rfl, Lib.hid ne, by omega, by omega, Lib.hid (HB1.out.trans (FB.mono HB1.out.size)), Lib.hid ((FB.block _ HWL.out).trans HX1.out), Lib.hid F6, Lib.hid F7⟩
        · go_simp
          obtain ⟨v64, e64⟩ : ∃ W, W = v61.alloc (.cells #[.int .i64 0, .int .i64 0, .int .i64 0, .int .i64 0, .int .u32 0] 51) := ⟨_, rfl⟩
          have hb64 : Below v61.heap.size v61 v64 := by rw [e64]; exact (Below.refl _ _).alloc (Nat.le_refl _) _
          have B64 := B61.trans (hb64.mono B61.size)
          have X7_64 := (hb64.block _ (Array.getElem?_eq_some_iff.1 X7_61).1).trans X7_61
          have X6_64 : v64.heap[v61.heap.size]? = some (.cells #[.int .i64 0, .int .i64 0, .int .i64 0, .int .i64 0, .int .u32 0] 51 (0, 0) : Obj) := by rw [e64]; exact lit0 _ _
          have hs64 : v61.heap.size < v64.heap.size := (Array.getElem?_eq_some_iff.1 X6_64).1
          rw [← e64]
          clear e64
          refine hK _ _ (fun _ _ => ⟨⟨_, B64⟩, rfl⟩) ?_
          clear hK K
          refine wpAnyT_ready [9] (by kernel_rfl) (by simp) ?_
          refine AllReadyT.cons rfl (fun K hK => ?_) AllReadyT.nil
          · refine step_call ent_cbox rfl _ _ rfl (vals := #[.int .i64 px, .int .i64 py, .int .u8 0]) rfl (CB.out _) ?_
            rintro e v65 ⟨rfl, hb65⟩
            have B65 := B64.trans (hb65.mono B64.size)
            have X7_65 := (hb65.block _ (Array.getElem?_eq_some_iff.1 X7_64).1).trans X7_64
            have X6_65 := (hb65.block _ (Array.getElem?_eq_some_iff.1 X6_64).1).trans X6_64
            have hs65 := hb65.size
            refine ⟨_, rfl, ?_⟩
            refine hK _ _ (fun _ _ => ⟨⟨_, B65⟩, rfl⟩) ?_
            clear hK K
            have ne : v61.heap.size ≠ w0.heap.size := by omega
            have l6 : w1.heap.size ≤ v61.heap.size := by omega
            have l7 : w1.heap.size ≤ w0.heap.size := by omega
            refine wpAnyT_line [12, 13] _ _ _ (by kernel_rfl) ?_
            simp only [pick, List.filterMap_cons, List.filterMap_nil, List.getElem?_toArray, List.getElem?_cons_succ, List.getElem?_cons_zero]
            refine wpList_store_rowTo rfl 51 (.tmp 6) (.tmp 12) rfl rfl (v61.heap.size) #[.int .i64 (bx1 px false), .int .i64 (bx2 px false), .int .i64 (bx1 py false), .int .i64 (bx2 py false), .int .u32 0] rfl rfl _ _ X6_65 (by kernel_rfl) rfl (by simp [Value.oneCell']) ?_
            refine wpList_store_rowTo rfl 51 (.tmp 7) (.tmp 17) rfl rfl (w0.heap.size) #[.int .i64 (bx1 px false), .int .i64 (bx2 px false), .int .i64 (bx1 py false), .int .i64 (bx2 py false), .int .u32 0] rfl rfl _ _ ((setRow_other _ _ _ _ (Ne.symm ne)).trans X7_65) (by kernel_rfl) rfl (by simp [Value.oneCell']) ?_
            have F6 := (setRow_other (v65.setRow (v61.heap.size) #[.int .i64 (bx1 px false), .int .i64 (bx2 px false), .int .i64 (bx1 py false), .int .i64 (bx2 py false), .int .u32 0]) (w0.heap.size) (v61.heap.size) #[.int .i64 (bx1 px false), .int .i64 (bx2 px false), .int .i64 (bx1 py false), .int .i64 (bx2 py false), .int .u32 0] ne).trans (setRow_heap _ _ _ #[.int .i64 (bx1 px false), .int .i64 (bx2 px false), .int .i64 (bx1 py false), .int .i64 (bx2 py false), .int .u32 0] _ _ X6_65)
            have F7 := setRow_heap (v65.setRow (v61.heap.size) #[.int .i64 (bx1 px false), .int .i64 (bx2 px false), .int .i64 (bx1 py false), .int .i64 (bx2 py false), .int .u32 0]) (w0.heap.size) _ #[.int .i64 (bx1 px false), .int .i64 (bx2 px false), .int .i64 (bx1 py false), .int .i64 (bx2 py false), .int .u32 0] _ _ ((setRow_other _ _ _ _ (Ne.symm ne)).trans X7_65)
            have FB := below_setRow (below_setRow B65 l6 #[.int .i64 (bx1 px false), .int .i64 (bx2 px false), .int .i64 (bx1 py false), .int .i64 (bx2 py false), .int .u32 0]) l7 #[.int .i64 (bx1 px false), .int .i64 (bx2 px false), .int .i64 (bx1 py false), .int .i64 (bx2 py false), .int .u32 0]
            generalize (v65.setRow (v61.heap.size) #[.int .i64 (bx1 px false), .int .i64 (bx2 px false), .int .i64 (bx1 py false), .int .i64 (bx2 py false), .int .u32 0]).setRow (w0.heap.size) #[.int .i64 (bx1 px false), .int .i64 (bx2 px false), .int .i64 (bx1 py false), .int .i64 (bx2 py false), .int .u32 0] = W9 at *
            go_wp2_with fail
            go_meet
            exact ⟨_, _, rfl, rfl, Lib.hid ne, by omega, by omega, Lib.hid (HB1.out.trans (FB.mono HB1.out.size)), Lib.hid ((FB.block _ HWL.out).trans HX1.out), Lib.hid F6, Lib.hid F7⟩
      · go_simp
        obtain ⟨v66, e66⟩ : ∃ W, W = v60.alloc (.cells #[.int .i64 0, .int .i64 0, .int .i64 0, .int .i64 0, .int .u32 0] 51) := ⟨_, rfl⟩
        have hb66 : Below v60.heap.size v60 v66 := by rw [e66]; exact (Below.refl _ _).alloc (Nat.le_refl _) _
        have B66 := B60.trans (hb66.mono B60.size)
        have X7_66 := (hb66.block _ (Array.getElem?_eq_some_iff.1 X7_60).1).trans X7_60
        have X6_66 : v66.heap[v60.heap.size]? = some (.cells #[.int .i64 0, .int .i64 0, .int .i64 0, .int .i64 0, .int .u32 0] 51 (0, 0) : Obj) := by rw [e66]; exact lit0 _ _
        have hs66 : v60.heap.size < v66.heap.size := (Array.getElem?_eq_some_iff.1 X6_66).1
        rw [← e66]
        clear e66
        refine hK _ _ (fun _ _ => ⟨⟨_, B66⟩, rfl⟩) ?_
        clear hK K
        refine wpAnyT_ready [4] (by kernel_rfl) (by simp) ?_
        refine AllReadyT.cons rfl (fun K hK => ?_) AllReadyT.nil
        · refine step_call ent_cbox rfl _ _ rfl (vals := #[.int .i64 px, .int .i64 py, .int .u8 0]) rfl (CB.out _) ?_
          rintro e v67 ⟨rfl, hb67⟩
          have B67 := B66.trans (hb67.mono B66.size)
          have X7_67 := (hb67.block _ (Array.getElem?_eq_some_iff.1 X7_66).1).trans X7_66
          have X6_67 := (hb67.block _ (Array.getElem?_eq_some_iff.1 X6_66).1).trans X6_66
          have hs67 := hb67.size
          refine ⟨_, rfl, ?_⟩
          refine hK _ _ (fun _ _ => ⟨⟨_, B67⟩, rfl⟩) ?_
          clear hK K
          refine wpAnyT_ready [9] (by kernel_rfl) (by simp) ?_
          refine AllReadyT.cons rfl (fun K hK => ?_) AllReadyT.nil
          · refine step_call ent_cbox rfl _ _ rfl (vals := #[.int .i64 px, .int .i64 py, .int .u8 0]) rfl (CB.out _) ?_
            rintro e v68 ⟨rfl, hb68⟩
            have B68 := B67.trans (hb68.mono B67.size)
            have X7_68 := (hb68.block _ (Array.getElem?_eq_some_iff.1 X7_67).1).trans X7_67
            have X6_68 := (hb68.block _ (Array.getElem?_eq_some_iff.1 X6_67).1).trans X6_67
            have hs68 := hb68.size
            refine ⟨_, rfl, ?_⟩
            refine hK _ _ (fun _ _ => ⟨⟨_, B68⟩, rfl⟩) ?_
            clear hK K
            have ne : v60.heap.size ≠ w0.heap.size := by omega
            have l6 : w1.heap.size ≤ v60.heap.size := by omega
            have l7 : w1.heap.size ≤ w0.heap.size := by omega
            refine wpAnyT_line [12, 13] _ _ _ (by kernel_rfl) ?_
            simp only [pick, List.filterMap_cons, List.filterMap_nil, List.getElem?_toArray, List.getElem?_cons_succ, List.getElem?_cons_zero]
            refine wpList_store_rowTo rfl 51 (.tmp 6) (.tmp 12) rfl rfl (v60.heap.size) #[.int .i64 (bx1 px false), .int .i64 (bx2 px false), .int .i64 (bx1 py false), .int .i64 (bx2 py false), .int .u32 0] rfl rfl _ _ X6_68 (by kernel_rfl) rfl (by simp [Value.oneCell']) ?_
            refine wpList_store_rowTo rfl 51 (.tmp 7) (.tmp 17) rfl rfl (w0.heap.size) #[.int .i64 (bx1 px false), .int .i64 (bx2 px false), .int .i64 (bx1 py false), .int .i64 (bx2 py false), .int .u32 0] rfl rfl _ _ ((setRow_other _ _ _ _ (Ne.symm ne)).trans X7_68) (by kernel_rfl) rfl (by simp [Value.oneCell']) ?_
            have F6 := (setRow_other (v68.setRow (v60.heap.size) #[.int .i64 (bx1 px false), .int .i64 (bx2 px false), .int .i64 (bx1 py false), .int .i64 (bx2 py false), .int .u32 0]) (w0.heap.size) (v60.heap.size) #[.int .i64 (bx1 px false), .int .i64 (bx2 px false), .int .i64 (bx1 py false), .int .i64 (bx2 py false), .int .u32 0] ne).trans (setRow_heap _ _ _ #[.int .i64 (bx1 px false), .int .i64 (bx2 px false), .int .i64 (bx1 py false), .int .i64 (bx2 py false), .int .u32 0] _ _ X6_68)
            have F7 := setRow_heap (v68.setRow (v60.heap.size) #[.int .i64 (bx1 px false), .int .i64 (bx2 px false), .int .i64 (bx1 py false), .int .i64 (bx2 py false), .int .u32 0]) (w0.heap.size) _ #[.int .i64 (bx1 px false), .int .i64 (bx2 px false), .int .i64 (bx1 py false), .int .i64 (bx2 py false), .int .u32 0] _ _ ((setRow_other _ _ _ _ (Ne.symm ne)).trans X7_68)
            have FB := below_setRow (below_setRow B68 l6 #[.int .i64 (bx1 px false), .int .i64 (bx2 px false), .int .i64 (bx1 py false), .int .i64 (bx2 py false), .int .u32 0]) l7 #[.int .i64 (bx1 px false), .int .i64 (bx2 px false), .int .i64 (bx1 py false), .int .i64 (bx2 py false), .int .u32 0]
            generalize (v68.setRow (v60.heap.size) #[.int .i64 (bx1 px false), .int .i64 (bx2 px false), .int .i64 (bx1 py false), .int .i64 (bx2 py false), .int .u32 0]).setRow (w0.heap.size) #[.int .i64 (bx1 px false), .int .i64 (bx2 px false), .int .i64 (bx1 py false), .int .i64 (bx2 py false), .int .u32 0] = W9 at *
            go_wp2_with fail
            go_meet
            exact ⟨_, _, rfl, rfl, Lib.hid ne, by omega, by omega, Lib.hid (HB1.out.trans (FB.mono HB1.out.size)), Lib.hid ((FB.block _ HWL.out).trans HX1.out), Lib.hid F6, Lib.hid F7⟩
  case rest =>
    obtain ⟨g6, g7, rfl, rfl, hne, h6, h7, HB, HP, H6, H7⟩ := hcut
    have q1 : wc.cell? ⟨w.heap.size, 0, none⟩ = some (.int .i64 px) := (obP_cells HP.out).1
    have q2 : wc.cell? ⟨w.heap.size, 1, none⟩ = some (.int .i64 py) := (obP_cells HP.out).2.1
    go_upto_if 20 with fail
    clear q1 q2
    go_cut [] from 20 (fun wx => Hid (Below w.heap.size w wx) ∧ Hid (wx.heap[w.heap.size]? = some (obP (px, py, pi))) ∧ Hid (wx.heap[g6]? = some (objBx (bxO (belowB (px, py, pi))))) ∧ Hid (wx.heap[g7]? = some (objBx (((-9223372036854775808), px, (-9223372036854775808), py, 0)))))
    case first =>
      have y0 : wc.cell? ⟨g6, 0, none⟩ = some (.int .i64 (-9223372036854775808)) := (objBx_cells H6.out).1
      have y1 : wc.cell? ⟨g6, 1, none⟩ = some (.int .i64 px) := (objBx_cells H6.out).2.1
      have y2 : wc.cell? ⟨g6, 2, none⟩ = some (.int .i64 (-9223372036854775808)) := (objBx_cells H6.out).2.2.1
      have y3 : wc.cell? ⟨g6, 3, none⟩ = some (.int .i64 py) := (objBx_cells H6.out).2.2.2.1
      have y4 : wc.cell? ⟨g6, 4, none⟩ = some (.int .u32 0) := (objBx_cells H6.out).2.2.2.2
      have yz0 : wc.frozen? ⟨g6, 0, none⟩ = false := by simp [World.frozen?, H6.out, objBx]
      have yz1 : wc.frozen? ⟨g6, 1, none⟩ = false := by simp [World.frozen?, H6.out, objBx]
      have yz2 : wc.frozen? ⟨g6, 2, none⟩ = false := by simp [World.frozen?, H6.out, objBx]
      have yz3 : wc.frozen? ⟨g6, 3, none⟩ = false := by simp [World.frozen?, H6.out, objBx]
      have yz4 : wc.frozen? ⟨g6, 4, none⟩ = false := by simp [World.frozen?, H6.out, objBx]
      have hy := HY.out
      simp only [leastI, mostI] at hy
      by_cases e : py = (-9223372036854775808)
      · have d : (py == (-9223372036854775808)) = true := by simp [e]
        have E := Lib.hid e
        clear e
        go_wp2_with (first
          | (go_at_call 60; refine (NT.out _).mono ?_; rintro e2 w2 ⟨rfl, hb2⟩; have X2 := (hb2.block _ (Array.getElem?_eq_some_iff.1 H6.out).1).trans H6.out; have X3 := (hb2.block _ (Array.getElem?_eq_some_iff.1 H7.out).1).trans H7.out; have X4 := (hb2.block _ (Array.getElem?_eq_some_iff.1 HP.out).1).trans HP.out)
          | (refine wpList_store_rowTo rfl 51 (.tmp 6) (.tmp 21) rfl rfl g6 #[.int .i64 1, .int .i64 0, .int .i64 0, .int .i64 0, .int .u32 0] rfl rfl _ _ X2 (by kernel_rfl) rfl (by simp [Value.oneCell']) ?_))
        go_meet
        have BB := (HB.out.trans (hb2.mono HB.out.size))
        exact ⟨Lib.hid (below_setRow BB (by omega) _), Lib.hid ((setRow_other _ _ _ _ (by omega)).trans X4), Lib.hid ((setRow_heap _ _ _ _ _ _ X2).trans (congrArg some (show objBx (bxO (belowB (px, py, pi))) = _ by rw [show belowB (px, py, pi) = noB by simp [belowB, E.out]]; rfl).symm)), Lib.hid ((setRow_other _ _ _ _ (Ne.symm hne.out)).trans X3)⟩
      · have d : (py == (-9223372036854775808)) = false := by simp [e]
        have el : (-9223372036854775808) < py := by omega
        have E := Lib.hid e
        clear e
        go_wp2
        go_meet
        have S1 := heap_setCell_same wc g6 3 _ _ (Value.int .i64 (py - 1)) H6.out
        exact ⟨Lib.hid (HB.out.setCell (by show w.heap.size ≤ g6; omega) _), Lib.hid ((heap_setNe (by show g6 ≠ w.heap.size; omega)).trans HP.out), Lib.hid (S1.trans (congrArg some (show _ = objBx (bxO (belowB (px, py, pi))) by rw [show belowB (px, py, pi) = ((-9223372036854775808), px, (-9223372036854775808), py - 1) by simp [belowB, E.out]]; rfl))), Lib.hid ((heap_setNe (by show g6 ≠ g7; exact hne.out)).trans H7.out)⟩
    case rest =>
    clear HB HP H6 H7
    obtain ⟨HB, HP, H6, H7⟩ := hcut
    have q1 : wc.cell? ⟨w.heap.size, 0, none⟩ = some (.int .i64 px) := (obP_cells HP.out).1
    have q2 : wc.cell? ⟨w.heap.size, 1, none⟩ = some (.int .i64 py) := (obP_cells HP.out).2.1
    go_upto_if 28 with fail
    go_cut [] from 28 (fun wx => Hid (Below w.heap.size w wx) ∧ Hid (wx.heap[w.heap.size]? = some (obP (px, py, pi))) ∧ Hid (wx.heap[g6]? = some (objBx (bxO (belowB (px, py, pi))))) ∧ Hid (wx.heap[g7]? = some (objBx (bxO (leftB (px, py, pi))))))
    case first =>
      have y0 : wc.cell? ⟨g7, 0, none⟩ = some (.int .i64 (-9223372036854775808)) := (objBx_cells H7.out).1
      have y1 : wc.cell? ⟨g7, 1, none⟩ = some (.int .i64 px) := (objBx_cells H7.out).2.1
      have y2 : wc.cell? ⟨g7, 2, none⟩ = some (.int .i64 (-9223372036854775808)) := (objBx_cells H7.out).2.2.1
      have y3 : wc.cell? ⟨g7, 3, none⟩ = some (.int .i64 py) := (objBx_cells H7.out).2.2.2.1
      have y4 : wc.cell? ⟨g7, 4, none⟩ = some (.int .u32 0) := (objBx_cells H7.out).2.2.2.2
      have yz0 : wc.frozen? ⟨g7, 0, none⟩ = false := by simp [World.frozen?, H7.out, objBx]
      have yz1 : wc.frozen? ⟨g7, 1, none⟩ = false := by simp [World.frozen?, H7.out, objBx]
      have yz2 : wc.frozen? ⟨g7, 2, none⟩ = false := by simp [World.frozen?, H7.out, objBx]
      have yz3 : wc.frozen? ⟨g7, 3, none⟩ = false := by simp [World.frozen?, H7.out, objBx]
      have yz4 : wc.frozen? ⟨g7, 4, none⟩ = false := by simp [World.frozen?, H7.out, objBx]
      have hx := HX.out
      simp only [leastI, mostI] at hx
      by_cases e : px = (-9223372036854775808)
      · have d : (px == (-9223372036854775808)) = true := by simp [e]
        have E := Lib.hid e
        clear e
        go_wp2_with (first
          | (go_at_call 60; refine (NT.out _).mono ?_; rintro e2 w2 ⟨rfl, hb2⟩; have X2 := (hb2.block _ (Array.getElem?_eq_some_iff.1 H7.out).1).trans H7.out; have X3 := (hb2.block _ (Array.getElem?_eq_some_iff.1 H6.out).1).trans H6.out; have X4 := (hb2.block _ (Array.getElem?_eq_some_iff.1 HP.out).1).trans HP.out)
          | (refine wpList_store_rowTo rfl 51 (.tmp 7) (.tmp 29) rfl rfl g7 #[.int .i64 1, .int .i64 0, .int .i64 0, .int .i64 0, .int .u32 0] rfl rfl _ _ X2 (by kernel_rfl) rfl (by simp [Value.oneCell']) ?_))
        go_meet
        have BB := (HB.out.trans (hb2.mono HB.out.size))
        exact ⟨Lib.hid (below_setRow BB (by omega) _), Lib.hid ((setRow_other _ _ _ _ (by omega)).trans X4), Lib.hid ((setRow_other _ _ _ _ hne.out).trans X3), Lib.hid ((setRow_heap _ _ _ _ _ _ X2).trans (congrArg some (show objBx (bxO (leftB (px, py, pi))) = _ by rw [show leftB (px, py, pi) = noB by simp [leftB, E.out]]; rfl).symm))⟩
      · have d : (px == (-9223372036854775808)) = false := by simp [e]
        have el : (-9223372036854775808) < px := by omega
        have E := Lib.hid e
        clear e
        have nwg : w.heap.size ≠ g7 := by omega
        go_wp2
        go_meet
        have S1 := heap_setCell_same wc g7 1 _ _ (Value.int .i64 (px - 1)) H7.out
        have S2 := heap_setCell_same _ g7 2 _ _ (Value.int .i64 py) S1
        exact ⟨Lib.hid ((HB.out.setCell (by show w.heap.size ≤ g7; omega) _).setCell (by show w.heap.size ≤ g7; omega) _), Lib.hid ((heap_setNe (by show g7 ≠ w.heap.size; omega)).trans ((heap_setNe (by show g7 ≠ w.heap.size; omega)).trans HP.out)), Lib.hid ((heap_setNe (by show g7 ≠ g6; exact Ne.symm hne.out)).trans ((heap_setNe (by show g7 ≠ g6; exact Ne.symm hne.out)).trans H6.out)), Lib.hid (S2.trans (congrArg some (show _ = objBx (bxO (leftB (px, py, pi))) by rw [show leftB (px, py, pi) = ((-9223372036854775808), px - 1, py, py) by simp [leftB, E.out]]; rfl)))⟩
    case rest =>
    clear HB HP H6 H7
    obtain ⟨HB, HP, H6, H7⟩ := hcut
    generalize belowB (px, py, pi) = A at *
    generalize leftB (px, py, pi) = B at *
    obtain ⟨A1, A2, A3, A4⟩ := A
    obtain ⟨B1, B2, B3, B4⟩ := B
    have y0 : wc.cell? ⟨g6, 0, none⟩ = some (.int .i64 A1) := (objBx_cells H6.out).1
    have y1 : wc.cell? ⟨g6, 1, none⟩ = some (.int .i64 A2) := (objBx_cells H6.out).2.1
    have y2 : wc.cell? ⟨g6, 2, none⟩ = some (.int .i64 A3) := (objBx_cells H6.out).2.2.1
    have y3 : wc.cell? ⟨g6, 3, none⟩ = some (.int .i64 A4) := (objBx_cells H6.out).2.2.2.1
    have y4 : wc.cell? ⟨g6, 4, none⟩ = some (.int .u32 0) := (objBx_cells H6.out).2.2.2.2
    have yz0 : wc.frozen? ⟨g6, 0, none⟩ = false := by simp [World.frozen?, H6.out, objBx]
    have yz1 : wc.frozen? ⟨g6, 1, none⟩ = false := by simp [World.frozen?, H6.out, objBx]
    have yz2 : wc.frozen? ⟨g6, 2, none⟩ = false := by simp [World.frozen?, H6.out, objBx]
    have yz3 : wc.frozen? ⟨g6, 3, none⟩ = false := by simp [World.frozen?, H6.out, objBx]
    have yz4 : wc.frozen? ⟨g6, 4, none⟩ = false := by simp [World.frozen?, H6.out, objBx]
    have x0 : wc.cell? ⟨g7, 0, none⟩ = some (.int .i64 B1) := (objBx_cells H7.out).1
    have x1 : wc.cell? ⟨g7, 1, none⟩ = some (.int .i64 B2) := (objBx_cells H7.out).2.1
    have x2 : wc.cell? ⟨g7, 2, none⟩ = some (.int .i64 B3) := (objBx_cells H7.out).2.2.1
    have x3 : wc.cell? ⟨g7, 3, none⟩ = some (.int .i64 B4) := (objBx_cells H7.out).2.2.2.1
    have x4 : wc.cell? ⟨g7, 4, none⟩ = some (.int .u32 0) := (objBx_cells H7.out).2.2.2.2
    have xz0 : wc.frozen? ⟨g7, 0, none⟩ = false := by simp [World.frozen?, H7.out, objBx]
    have xz1 : wc.frozen? ⟨g7, 1, none⟩ = false := by simp [World.frozen?, H7.out, objBx]
    have xz2 : wc.frozen? ⟨g7, 2, none⟩ = false := by simp [World.frozen?, H7.out, objBx]
    have xz3 : wc.frozen? ⟨g7, 3, none⟩ = false := by simp [World.frozen?, H7.out, objBx]
    have xz4 : wc.frozen? ⟨g7, 4, none⟩ = false := by simp [World.frozen?, H7.out, objBx]
    have hlit : ∀ W, Below wc.heap.size wc W → True := fun _ _ => trivial
    go_wp2_with fail
    have RL := RdK.lit (sz := 5) eBx_len wc 51 [bxO (A1, A2, A3, A4), bxO (B1, B2, B3, B4)] wc.heap.size rfl
    have b1 : Below wc.heap.size wc (wc.alloc (.cells #[.int .i64 A1, .int .i64 A2, .int .i64 A3, .int .i64 A4, .int .u32 0, .int .i64 B1, .int .i64 B2, .int .i64 B3, .int .i64 B4, .int .u32 0] 51)) := (Below.refl _ _).alloc (Nat.le_refl _) _
    have BF := HB.out.trans (b1.mono HB.out.size)
    have CF := CC.out _ BF _ RL
    refine CF.mono ?_
    rintro e w9 ⟨v, c, rfl, hR⟩
    have HR := Lib.hid hR
    have HBF := Lib.hid BF
    clear hR CF RL BF b1
    go_wp2_with fail
    go_ret2
    exact ⟨v, c, rfl, _, HBF.out, HR.out⟩
end Go.Proofs.YthpgkldpbbajfaaGreat

/- A corner of points: Build, Report, Count, Len, Drop, Over, Under in words of the points that live. -/
namespace Go.Proofs.YthpgkldpbbajfaaGreat
open Go.RowKit Go.Sort Go.Shelf Go.Lib Go.Maps
set_option linter.unusedSimpArgs false
set_option linter.unusedVariables false

/-- a corner as it lies over its tree -/
def CorAt (w : World) (lo hi cb n0 : Nat) (l : List Pt) : Prop :=
  ∃ tb h2, TreeAt w lo h2 tb n0 l ∧ h2 ≤ cb ∧ cb < hi ∧ hi ≤ w.heap.size ∧ w.heap[cb]? = some (.cells #[.pointer (some ⟨tb, 0, none⟩)] 91 (0, 0))

section
variable {w w' : World} {lo hi cb n0 : Nat} {l : List Pt}
theorem TreeAt.few2 {w : World} {lo hi tb n0 : Nat} {l : List Pt} (h : TreeAt w lo hi tb n0 l) : l.length ≤ n0 ∧ n0 ≤ 20000 := by
  obtain ⟨fb, R, gone, YS, V, h1, h2, h3, h4, h5⟩ := h
  have := h2.lenY
  have := h3.len h2
  omega
theorem TreeAt.lo_le {w : World} {lo hi tb n0 : Nat} {l : List Pt} (h : TreeAt w lo hi tb n0 l) : lo ≤ hi := by
  obtain ⟨fb, R, gone, YS, V, h1, h2⟩ := h
  have := h1.tbr
  omega
theorem CorAt.kept {S : Nat → Prop} (h : CorAt w lo hi cb n0 l) (K : KpS S w w') (hS : ∀ k, lo ≤ k → k < hi → ¬ S k) : CorAt w' lo hi cb n0 l := by
  obtain ⟨tb, h2, hT, h3, h4, h5, h6⟩ := h
  have := hT.lo_le
  exact ⟨tb, h2, hT.kept K (fun k h7 h8 => hS k h7 (by omega)), h3, h4, Nat.le_trans h5 K.size, (K.block cb (by omega) (hS cb (by omega) h4)).trans h6⟩
theorem CorAt.below {B : Nat} (h : CorAt w lo hi cb n0 l) (hb : Below B w w') (hB : hi ≤ B) : CorAt w' lo hi cb n0 l := by
  obtain ⟨tb, h2, hT, h3, h4, h5, h6⟩ := h
  exact ⟨tb, h2, hT.below hb (by omega), h3, h4, Nat.le_trans h5 hb.size, (hb.block cb (by omega)).trans h6⟩
theorem CorAt.hi_le (h : CorAt w lo hi cb n0 l) : hi ≤ w.heap.size := by
  obtain ⟨tb, h2, hT, h3, h4, h5, h6⟩ := h
  exact h5
theorem CorAt.few (h : CorAt w lo hi cb n0 l) : l.length ≤ n0 ∧ n0 ≤ 20000 := by
  obtain ⟨tb, h2, hT, h3, h4, h5, h6⟩ := h
  exact hT.few2
theorem cor_cell {w : World} {cb tb : Nat} (h : w.heap[cb]? = some (.cells #[.pointer (some ⟨tb, 0, none⟩)] 91 (0, 0))) : w.cell? ⟨cb, 0, none⟩ = some (.pointer (some ⟨tb, 0, none⟩)) := by simp [World.cell?, h]

theorem coBuild_bad (a : Option Addr) (c : Nat) (l : List Pt) (w : World) (hl : RdK ePt 3 w a l) (hn : l.length ≤ 20000) (hw : wfN l) (hu : unl l = false) :
    Calls Tryz.prog 18 #[.slice a l.length c] w fun e w' => e = .returned (.tuple #[.pointer none, .int .i64 2]) ∧ Below w.heap.size w w' :=
  cn_Build_bad (by decide) (casc_build_bad a c l w hl (by omega) hw hu)

theorem coBuild (a : Option Addr) (c : Nat) (l : List Pt) (w : World) (hl : RdK ePt 3 w a l) (hn : l.length ≤ 20000) (hw : wfN l) (hu : unl l = true) :
    Calls Tryz.prog 18 #[.slice a l.length c] w fun e w' => ∃ cb, e = .returned (.tuple #[.pointer (some ⟨cb, 0, none⟩), .int .i64 0]) ∧ CorAt w' w.heap.size w'.heap.size cb l.length l ∧ Below w.heap.size w w' := by
  refine (cn_Build (R := fun tb W => TreeAt W w.heap.size W.heap.size tb l.length l) ((tBuild a c l w hl hn hw hu).mono fun e w1 ⟨tb, he, hT, hb⟩ => ⟨tb, he, hb, hT⟩)).mono ?_
  rintro e w' ⟨tb, W, rfl, hT, hb, rfl⟩
  have b1 : Below W.heap.size W (W.alloc (.cells #[.pointer (some ⟨tb, 0, none⟩)] 91)) := (Below.refl _ _).alloc (Nat.le_refl _) _
  exact ⟨_, rfl, ⟨tb, W.heap.size, hT.below b1 (Nat.le_refl _), Nat.le_refl _, by simp, Nat.le_refl _, lit0 _ _⟩, hb.trans (b1.mono hb.size)⟩

theorem coReport (h : CorAt w lo hi cb n0 l) (hl : wfL l) (x y : Int) (wx wy : Bool) (way : Int) (hway : way = (if wx then 1 else 0) + (if wy then 2 else 0)) :
    Calls Tryz.prog 62 #[.pointer (some ⟨cb, 0, none⟩), .int .i64 x, .int .i64 y, .int .u8 way] w fun e w' => ∃ v, ∃ c : Nat, e = .returned (.tuple #[v, .int .i64 ((c + (hasN l (crnF x y wx wy)).length : Nat) : Int)]) ∧ c ≤ 8 * Lib.bitLen n0 + 1 ∧ w'.ownsRow w.heap.size 32 1 v (hasN l (crnF x y wx wy)).length ((hasN l (crnF x y wx wy)).map (Value.int .u32)) ∧ Below w.heap.size w w' := by
  obtain ⟨tb, h2, hT, h3, h4, h5, h6⟩ := h
  refine (cn_Report (R := fun W v q w' => ∃ c : Nat, q = .int .i64 ((c + (hasN l (crnF x y wx wy)).length : Nat) : Int) ∧ c ≤ 8 * Lib.bitLen n0 + 1 ∧ w'.ownsRow W.heap.size 32 1 v (hasN l (crnF x y wx wy)).length ((hasN l (crnF x y wx wy)).map (Value.int .u32)) ∧ Below W.heap.size W w') (by omega) (cor_cell h6) x y wx wy way hway ?_).mono ?_
  · intro W hb
    refine (tReport (hT.below hb (by omega)) (bx1 x wx) (bx2 x wx) (bx1 y wy) (bx2 y wy) 0).mono ?_
    rintro e w' ⟨v, c, rfl, hc, hr, hb2⟩
    rw [hasB_crn hl] at *
    exact ⟨v, _, rfl, hb2, c, rfl, hc, hr, hb2⟩
  · rintro e w' ⟨v, q, rfl, W, hb, c, rfl, hc, hr, hb2⟩
    exact ⟨v, c, rfl, hc, rowMono hr hb.size, hb.trans (hb2.mono hb.size)⟩

/-- a way that is none -/
theorem coReport_no (h : CorAt w lo hi cb n0 l) (x y way : Int) (hw : 3 < way) :
    Calls Tryz.prog 62 #[.pointer (some ⟨cb, 0, none⟩), .int .i64 x, .int .i64 y, .int .u8 way] w fun e w' => e = .returned (.tuple #[.slice none 0 0, .int .i64 0]) ∧ w' = w := by
  obtain ⟨tb, h2, hT, h3, h4, h5, h6⟩ := h
  exact cn_Report_no _ (.inr ⟨cb, tb, rfl, cor_cell h6⟩) x y way (.inr hw)
theorem bitLen_few {n : Nat} (h : n ≤ 20000) : 8 * Lib.bitLen n + 1 ≤ 200 := by
  have h1 : Lib.bitLen n ≤ 15 := Nat.le_trans (bitLen_mono h (by omega)) (by decide)
  omega

theorem coAll {tb : Nat} (hT : TreeAt w lo hi tb n0 l) {cb : Nat} (hcl : cb < w.heap.size) (hhi : hi ≤ w.heap.size) (hc : w.cell? ⟨cb, 0, none⟩ = some (.pointer (some ⟨tb, 0, none⟩))) (A B : Bx4) (f : Pt → Bool) (hf : srtI (hasX l A ++ hasX l B) = hasN l f) (ab : Option Addr) (hB : RdK eBx 5 w ab [bxO A, bxO B]) :
    Calls Tryz.prog 61 #[.pointer (some ⟨cb, 0, none⟩), .slice ab 2 2] w fun e w' => ∃ v q, e = .returned (.tuple #[v, q]) ∧ ∃ c : Nat, q = .int .i64 ((c + (hasN l f).length : Nat) : Int) ∧ c ≤ 2 * (8 * Lib.bitLen n0 + 1) ∧ w'.ownsRow w.heap.size 32 1 v (hasN l f).length ((hasN l f).map (Value.int .u32)) ∧ Below w.heap.size w w' := by
  have few := hT.few2
  have hK := bitLen_few few.2
  refine (cn_all (tb := tb) (K := 8 * Lib.bitLen n0 + 1) (fun b => hasB l b.1 b.2.1 b.2.2.1 b.2.2.2.1) hcl hc [bxO A, bxO B] ab 2 2 rfl hB (by omega) (by omega) (fun b => ?_) (fun W hb b => ?_)).mono ?_
  · have := List.length_filter_le (inB b.1 b.2.1 b.2.2.1 b.2.2.2.1) l
    show (hasB l b.1 b.2.1 b.2.2.1 b.2.2.2.1).length ≤ 20000
    rw [hasB_len]; omega
  · exact tReport (hT.below hb hhi) b.1 b.2.1 b.2.2.1 b.2.2.2.1 b.2.2.2.2
  · rintro e w' ⟨v, c, rfl, hc, hr, hb⟩
    have e1 : ([bxO A, bxO B].flatMap fun b : Bx => hasB l b.1 b.2.1 b.2.2.1 b.2.2.2.1) = hasX l A ++ hasX l B := by simp [hasX]
    rw [e1] at hr ⊢
    have e2 : (hasX l A ++ hasX l B).length = (hasN l f).length := by rw [← hf, srtI_len]
    rw [hf] at hr
    rw [e2]
    exact ⟨v, _, rfl, c, rfl, hc, hr, hb⟩

theorem coOver (h : CorAt w lo hi cb n0 l) (hl : wfL l) (px py pi : Int) (h1 : (Lit.int .i64 px).wf = true) (h2 : (Lit.int .i64 py).wf = true) :
    Calls Tryz.prog 19 #[.pointer (some ⟨cb, 0, none⟩), vPt px py pi] w fun e w' => ∃ v, ∃ c : Nat, e = .returned (.tuple #[v, .int .i64 ((c + (hasN l fun q => ovr q (px, py, pi)).length : Nat) : Int)]) ∧ c ≤ 2 * (8 * Lib.bitLen n0 + 1) ∧ w'.ownsRow w.heap.size 32 1 v (hasN l fun q => ovr q (px, py, pi)).length ((hasN l fun q => ovr q (px, py, pi)).map (Value.int .u32)) ∧ Below w.heap.size w w' := by
  obtain ⟨tb, h2', hT, h3, h4, h5, h6⟩ := h
  refine (cn_Over px py pi (wf64 h1) (wf64 h2) (fun W hb ab hB => coAll (hT.below hb (by omega)) (Nat.lt_of_lt_of_le (Nat.lt_of_lt_of_le h4 h5) hb.size) (Nat.le_trans (by omega) hb.size) ((hb.cell (p := ⟨cb, 0, none⟩) (by show cb < w.heap.size; omega)).trans (cor_cell h6)) _ _ (fun q => ovr q (px, py, pi)) (over_two hl (px, py, pi) h1 h2) ab hB)).mono ?_
  rintro e w' ⟨v, q, rfl, W, hb, c, rfl, hc, hr, hb2⟩
  exact ⟨v, c, rfl, hc, rowMono hr hb.size, hb.trans (hb2.mono hb.size)⟩

theorem coUnder (h : CorAt w lo hi cb n0 l) (hl : wfL l) (px py pi : Int) (h1 : (Lit.int .i64 px).wf = true) (h2 : (Lit.int .i64 py).wf = true) :
    Calls Tryz.prog 22 #[.pointer (some ⟨cb, 0, none⟩), vPt px py pi] w fun e w' => ∃ v, ∃ c : Nat, e = .returned (.tuple #[v, .int .i64 ((c + (hasN l (ovr (px, py, pi))).length : Nat) : Int)]) ∧ c ≤ 2 * (8 * Lib.bitLen n0 + 1) ∧ w'.ownsRow w.heap.size 32 1 v (hasN l (ovr (px, py, pi))).length ((hasN l (ovr (px, py, pi))).map (Value.int .u32)) ∧ Below w.heap.size w w' := by
  obtain ⟨tb, h2', hT, h3, h4, h5, h6⟩ := h
  refine (cn_Under px py pi (wf64 h1) (wf64 h2) (fun W hb ab hB => coAll (hT.below hb (by omega)) (Nat.lt_of_lt_of_le (Nat.lt_of_lt_of_le h4 h5) hb.size) (Nat.le_trans (by omega) hb.size) ((hb.cell (p := ⟨cb, 0, none⟩) (by show cb < w.heap.size; omega)).trans (cor_cell h6)) _ _ (ovr (px, py, pi)) (under_two hl (px, py, pi) h1 h2) ab hB)).mono ?_
  rintro e w' ⟨v, q, rfl, W, hb, c, rfl, hc, hr, hb2⟩
  exact ⟨v, c, rfl, hc, rowMono hr hb.size, hb.trans (hb2.mono hb.size)⟩
end
end Go.Proofs.YthpgkldpbbajfaaGreat
