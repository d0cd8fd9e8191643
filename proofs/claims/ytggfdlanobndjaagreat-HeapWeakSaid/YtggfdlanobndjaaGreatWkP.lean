/- Points dropped from either end of a list; four corners that part all points. No function of the program is walked here. -/
import Derived.Test.YtggfdlanobndjaaGreatCrnP
namespace Go.Proofs.YtggfdlanobndjaaGreat
open Go Go.RowKit
set_option linter.unusedVariables false
set_option linter.unusedSimpArgs false

section
variable {l : List Pt} {D : List Bool}
theorem nodup_ids (h : (ids l).Nodup) : l.Nodup :=
  List.Pairwise.of_map (fun p : Pt => p.2.2) (fun a b hab e => hab (by rw [e])) h
/-- is a point to be dropped -/
def wkG (l : List Pt) (D : List Bool) (q : Pt) : Bool := (List.range l.length).any fun j => decide (l[j]? = some q) && (D[j]? == some true)
/-- what is left when those of S that are to be dropped have been -/
def wkA (l : List Pt) (D : List Bool) (S : List Pt) : List Pt := l.filter fun q => !(wkG l D q && decide (q ∈ S))

theorem wkG_at (hn : l.Nodup) {i : Nat} (hi : i < l.length) : wkG l D l[i] = (D[i]? == some true) := by
  unfold wkG
  rw [Bool.eq_iff_iff, List.any_eq_true]
  constructor
  · rintro ⟨j, hj, h⟩
    simp only [Bool.and_eq_true, decide_eq_true_eq] at h
    obtain ⟨h1, h2⟩ := h
    rw [List.mem_range] at hj
    rw [List.getElem?_eq_getElem hj] at h1
    have h1 := Option.some.inj h1
    have : j = i := by
      by_cases e : j < i
      · exact absurd h1 (List.pairwise_iff_getElem.1 hn j i hj hi e)
      · by_cases e : i < j
        · exact absurd h1.symm (List.pairwise_iff_getElem.1 hn i j hi hj e)
        · omega
    rw [← this]; exact h2
  · intro h
    exact ⟨i, List.mem_range.2 hi, by simp [hi, h]⟩
theorem wkA_yes {x : Pt} {S S' : List Pt} (hg : wkG l D x = true) (hS : ∀ q, q ∈ S' ↔ q ∈ S ∨ q = x) : (wkA l D S).filter (fun q => decide (q ≠ x)) = wkA l D S' := by
  unfold wkA
  rw [List.filter_filter]
  refine List.filter_congr fun q hq => ?_
  by_cases e : q = x
  · subst e; simp [hg, (hS q).2 (.inr rfl)]
  · have : (q ∈ S') = (q ∈ S) := propext ⟨fun h => ((hS q).1 h).resolve_right e, fun h => (hS q).2 (.inl h)⟩
    simp [e, this]
theorem wkA_no {x : Pt} {S S' : List Pt} (hg : wkG l D x = false) (hS : ∀ q, q ∈ S' ↔ q ∈ S ∨ q = x) : wkA l D S' = wkA l D S := by
  unfold wkA
  refine List.filter_congr fun q hq => ?_
  by_cases e : q = x
  · subst e; simp [hg]
  · have : (q ∈ S') = (q ∈ S) := propext ⟨fun h => ((hS q).1 h).resolve_right e, fun h => (hS q).2 (.inl h)⟩
    simp [this]
theorem wkA_mem {x : Pt} {S : List Pt} (hx : x ∈ l) (hS : x ∉ S) : x ∈ wkA l D S := by
  unfold wkA; simp [hx, hS]
theorem wkA_nil : wkA l D [] = l := by
  unfold wkA; simp
theorem wkA_all {S : List Pt} (h : ∀ q ∈ l, q ∈ S) : wkA l D S = l.filter fun q => !wkG l D q := by
  unfold wkA
  exact List.filter_congr fun q hq => by simp [h q hq]
theorem mem_take_more {i : Nat} (hi : i < l.length) (q : Pt) : q ∈ l.take (i + 1) ↔ q ∈ l.take i ∨ q = l[i] := by
  rw [List.take_succ_eq_append_getElem hi, List.mem_append, List.mem_singleton]
theorem mem_drop_more {k : Nat} (hk : k < l.length) (q : Pt) : q ∈ l.drop k ↔ q ∈ l.drop (k + 1) ∨ q = l[k] := by
  rw [List.drop_eq_getElem_cons hk, List.mem_cons, or_comm]
theorem not_take (hn : l.Nodup) {i : Nat} (hi : i < l.length) : l[i] ∉ l.take i := by
  intro h
  obtain ⟨j, hj, e⟩ := List.getElem_of_mem h
  simp at hj
  rw [List.getElem_take] at e
  exact List.pairwise_iff_getElem.1 hn j i (by omega) hi (by omega) e
theorem not_drop (hn : l.Nodup) {k : Nat} (hk : k < l.length) : l[k] ∉ l.drop (k + 1) := by
  intro h
  obtain ⟨j, hj, e⟩ := List.getElem_of_mem h
  simp at hj
  rw [List.getElem_drop] at e
  exact List.pairwise_iff_getElem.1 hn k (k + 1 + j) hk (by omega) (by omega) e.symm
/-- what is left of the first ones -/
theorem left_more (hn : l.Nodup) {i : Nat} (hi : i < l.length) : (l.take (i + 1)).filter (fun q => !wkG l D q) = (l.take i).filter (fun q => !wkG l D q) ++ if D[i]? = some true then [] else [l[i]] := by
  rw [List.take_succ_eq_append_getElem hi, List.filter_append]
  congr 1
  have := wkG_at (D := D) hn hi
  by_cases e : D[i]? = some true
  · simp [this, e]
  · simp [this, e]
end

/-- the four corners at a place that part all points -/
def fourL (l : List Pt) (x y : Int) (w : Nat) : List Int := hasN l (crnF (x + (w % 2 : Nat)) (y + (w / 2 : Nat)) (w % 2 == 1) (w / 2 == 1))
theorem four_perm (l : List Pt) (x y : Int) : (fourL l x y 0 ++ fourL l x y 1 ++ fourL l x y 2 ++ fourL l x y 3).Perm (ids l) := by
  have h1 : (l.filter (crnF x y false false) ++ l.filter (crnF (x + 1) y true false)).Perm (l.filter fun p => decide (p.2.1 ≤ y)) :=
    filt_two (fun q hq => by rw [Bool.eq_iff_iff]; simp [crnF, onN]; omega) (fun q hq h => by simp [crnF, onN] at h ⊢; omega)
  have h2 : (l.filter (crnF x (y + 1) false true) ++ l.filter (crnF (x + 1) (y + 1) true true)).Perm (l.filter fun p => decide (y + 1 ≤ p.2.1)) :=
    filt_two (fun q hq => by rw [Bool.eq_iff_iff]; simp [crnF, onN]; omega) (fun q hq h => by simp [crnF, onN] at h ⊢; omega)
  have h3 : ((l.filter fun p => decide (p.2.1 ≤ y)) ++ l.filter fun p => decide (y + 1 ≤ p.2.1)).Perm (l.filter fun _ => true) :=
    filt_two (fun q hq => by rw [Bool.eq_iff_iff]; simp; omega) (fun q hq h => by simp at h ⊢; omega)
  have h4 := (h1.append h2).trans h3
  rw [List.filter_eq_self.2 (fun _ _ => rfl)] at h4
  have h5 := h4.map (fun p : Pt => p.2.2)
  simp only [List.map_append] at h5
  have e : ∀ f, (hasN l f).Perm ((l.filter f).map fun p => p.2.2) := fun f => List.mergeSort_perm _ _
  unfold fourL
  refine List.Perm.trans ?_ h5
  rw [List.append_assoc, List.append_assoc, List.append_assoc]
  have c1 := e (crnF x y false false)
  have c2 := e (crnF (x + 1) y true false)
  have c3 := e (crnF x (y + 1) false true)
  have c4 := e (crnF (x + 1) (y + 1) true true)
  have := c1.append (c2.append (c3.append c4))
  simpa using this
end Go.Proofs.YtggfdlanobndjaaGreat
