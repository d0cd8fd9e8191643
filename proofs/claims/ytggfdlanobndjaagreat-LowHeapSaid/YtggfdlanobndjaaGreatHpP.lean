/- The plain law of the heap over the frame's tree: filled, asked, one drawn out. No function of the program is walked here. -/
import Derived.Test.YtggfdlanobndjaaGreatQ5
namespace Go.Proofs.YtggfdlanobndjaaGreat
open Go Go.RowKit
set_option linter.unusedVariables false
set_option linter.unusedSimpArgs false

/-- which place each node holds -/
abbrev Hld := Nat → Option Nat
def updH (h : Hld) (k : Nat) (v : Option Nat) : Hld := fun j => if j = k then v else h j
theorem updH_same (h : Hld) (k : Nat) (v : Option Nat) : updH h k v k = v := by simp [updH]
theorem updH_ne {h : Hld} {k j : Nat} {v : Option Nat} (e : j ≠ k) : updH h k v j = h j := by simp [updH, e]

/-- the places that a tree's nodes hold, each node ahead of those below it -/
def held (h : Hld) : FT → Nat → List Nat
  | .leaf _, s => (h s).toList
  | .node l r, s => (h ((FT.node l r).root s)).toList ++ (held h l s ++ held h r (s + l.size))
theorem held_congr {h h' : Hld} : ∀ (t : FT) (s : Nat), (∀ k, s ≤ k → k < s + t.size → h' k = h k) → held h' t s = held h t s
  | .leaf a, s, e => by
    show (h' s).toList = (h s).toList
    rw [e s (Nat.le_refl _) (by simp [FT.size])]
  | .node l r, s, e => by
    have hs : (FT.node l r).size = l.size + r.size + 1 := rfl
    have hr : (FT.node l r).root s = s + (l.size + r.size + 1) - 1 := rfl
    simp only [held]
    rw [e _ (by omega) (by omega), held_congr l s (fun k h1 h2 => e k h1 (by omega)), held_congr r _ (fun k h1 h2 => e k (by omega) (by omega))]
theorem held_root {h : Hld} {t : FT} {s i : Nat} (e : h (t.root s) = some i) : ∃ L, held h t s = i :: L := by
  cases t with
  | leaf a => exact ⟨[], by show (h s).toList = _; rw [show h s = some i from e]; rfl⟩
  | node l r => exact ⟨_, by simp only [held]; rw [e]; rfl⟩
theorem held_none {h : Hld} : ∀ (t : FT) (s : Nat), (∀ k, s ≤ k → k < s + t.size → h k = none) → held h t s = []
  | .leaf a, s, e => by
    show (h s).toList = []
    rw [e s (Nat.le_refl _) (by simp [FT.size])]; rfl
  | .node l r, s, e => by
    have hs : (FT.node l r).size = l.size + r.size + 1 := rfl
    have hr : (FT.node l r).root s = s + (l.size + r.size + 1) - 1 := rfl
    simp only [held]
    rw [e _ (by omega) (by omega), held_none l s (fun k h1 h2 => e k h1 (by omega)), held_none r _ (fun k h1 h2 => e k (by omega) (by omega))]
    rfl

/-- a heap: each place lies in its node's span; what is below comes later; below none is none -/
def HpOK (lt : Nat → Nat → Prop) (h : Hld) : FT → Nat → Prop
  | .leaf a, s => ∀ i, h s = some i → i = a
  | .node l r, s => (∀ i, h ((FT.node l r).root s) = some i → (l.lo ≤ i ∧ i < r.hi) ∧ (∀ j, j ∈ held h l s → lt i j) ∧ ∀ j, j ∈ held h r (s + l.size) → lt i j) ∧
      (h ((FT.node l r).root s) = none → held h l s = [] ∧ held h r (s + l.size) = []) ∧ HpOK lt h l s ∧ HpOK lt h r (s + l.size)

section
variable {lt : Nat → Nat → Prop} {h h' : Hld}
theorem HpOK.congr : ∀ {t : FT} {s : Nat}, (∀ k, s ≤ k → k < s + t.size → h' k = h k) → HpOK lt h t s → HpOK lt h' t s
  | .leaf a, s, e, ok => by
    intro i hi
    rw [e s (Nat.le_refl _) (by simp [FT.size])] at hi
    exact ok i hi
  | .node l r, s, e, ok => by
    have hs : (FT.node l r).size = l.size + r.size + 1 := rfl
    have hr : (FT.node l r).root s = s + (l.size + r.size + 1) - 1 := rfl
    have el := fun k (h1 : s ≤ k) (h2 : k < s + l.size) => e k h1 (by omega)
    have er := fun k (h1 : s + l.size ≤ k) (h2 : k < s + l.size + r.size) => e k (by omega) (by omega)
    obtain ⟨h1, h2, h3, h4⟩ := ok
    refine ⟨?_, ?_, h3.congr el, h4.congr er⟩
    · rw [e _ (by omega) (by omega), held_congr l s el, held_congr r _ er]; exact h1
    · rw [e _ (by omega) (by omega), held_congr l s el, held_congr r _ er]; exact h2
theorem HpOK.span : ∀ {t : FT} {s : Nat}, t.wf → HpOK lt h t s → ∀ i ∈ held h t s, t.lo ≤ i ∧ i < t.hi
  | .leaf a, s, hw, ok, i, hi => by
    have := ok i (by simpa [held] using hi)
    subst this
    simp [FT.lo, FT.hi]
  | .node l r, s, hw, ok, i, hi => by
    obtain ⟨h1, h2, h3, h4⟩ := ok
    have q1 := FT.lo_hi l hw.1
    have q2 := FT.lo_hi r hw.2.1
    have q3 := hw.2.2
    simp only [held, List.mem_append, Option.mem_toList] at hi
    show l.lo ≤ i ∧ i < r.hi
    rcases hi with hi | hi | hi
    · exact (h1 i hi).1
    · have := h3.span hw.1 i hi; omega
    · have := h4.span hw.2.1 i hi; omega
theorem HpOK.empty : ∀ {t : FT} {s : Nat}, HpOK lt h t s → h (t.root s) = none → held h t s = []
  | .leaf a, s, ok, e => by show (h s).toList = []; rw [show h s = none from e]; rfl
  | .node l r, s, ok, e => by
    obtain ⟨h1, h2, h3, h4⟩ := ok
    obtain ⟨e1, e2⟩ := h2 e
    simp only [held]
    rw [e, e1, e2]; rfl
theorem HpOK.first : ∀ {t : FT} {s i : Nat}, HpOK lt h t s → h (t.root s) = some i → ∀ j ∈ held h t s, j = i ∨ lt i j
  | .leaf a, s, i, ok, e, j, hj => by
    left
    have : h s = some j := by simpa [held] using hj
    rw [show h s = some i from e] at this
    injection this with this; exact this.symm
  | .node l r, s, i, ok, e, j, hj => by
    obtain ⟨h1, h2, h3, h4⟩ := ok
    simp only [held, List.mem_append, Option.mem_toList] at hj
    rcases hj with hj | hj | hj
    · rw [e] at hj; injection hj with hj; exact .inl hj.symm
    · exact .inr ((h1 i e).2.1 j hj)
    · exact .inr ((h1 i e).2.2 j hj)
theorem HpOK.none : ∀ (t : FT) (s : Nat), (∀ k, s ≤ k → k < s + t.size → h k = Option.none) → HpOK lt h t s
  | .leaf a, s, e => by
    intro i hi
    rw [e s (Nat.le_refl _) (by simp [FT.size])] at hi
    cases hi
  | .node l r, s, e => by
    have hs : (FT.node l r).size = l.size + r.size + 1 := rfl
    have hr : (FT.node l r).root s = s + (l.size + r.size + 1) - 1 := rfl
    have el := fun k (h1 : s ≤ k) (h2 : k < s + l.size) => e k h1 (by omega)
    have er := fun k (h1 : s + l.size ≤ k) (h2 : k < s + l.size + r.size) => e k (by omega) (by omega)
    refine ⟨fun i hi => ?_, fun _ => ⟨held_none l s el, held_none r _ er⟩, HpOK.none l s el, HpOK.none r _ er⟩
    rw [e _ (by omega) (by omega)] at hi
    cases hi
end

/-- a node, and those below it, get places in order -/
def fillH : FT → Nat → List Nat → Hld → Hld
  | .leaf _, s, L, h => match L with
    | [] => h
    | i :: _ => updH h s (some i)
  | .node l r, s, L, h => match L with
    | [] => h
    | i :: L => fillH r (s + l.size) (L.filter fun j => !decide (j < l.hi)) (fillH l s (L.filter fun j => decide (j < l.hi)) (updH h ((FT.node l r).root s) (some i)))
theorem fillH_nil (t : FT) (s : Nat) (h : Hld) : fillH t s [] h = h := by cases t <;> rfl
theorem fillH_out : ∀ (t : FT) (s : Nat) (L : List Nat) (h : Hld) (k : Nat), (k < s ∨ s + t.size ≤ k) → fillH t s L h k = h k
  | .leaf a, s, [], h, k, hk => rfl
  | .leaf a, s, i :: L, h, k, hk => by
    simp only [FT.size] at hk
    exact updH_ne (by omega)
  | .node l r, s, [], h, k, hk => rfl
  | .node l r, s, i :: L, h, k, hk => by
    have hs : (FT.node l r).size = l.size + r.size + 1 := rfl
    have hr : (FT.node l r).root s = s + (l.size + r.size + 1) - 1 := rfl
    simp only [fillH]
    rw [fillH_out r _ _ _ k (by omega), fillH_out l _ _ _ k (by omega)]
    exact updH_ne (by omega)

theorem fillH_spec {lt : Nat → Nat → Prop} : ∀ (t : FT) (s : Nat) (L : List Nat) (h : Hld), t.wf → L.Pairwise lt → L.Nodup → (∀ i ∈ L, t.lo ≤ i ∧ i < t.hi) → (∀ k, s ≤ k → k < s + t.size → h k = none) →
    HpOK lt (fillH t s L h) t s ∧ (held (fillH t s L h) t s).Perm L
  | t, s, [], h, hw, hL, hn, hsp, he => by
    rw [fillH_nil]
    exact ⟨HpOK.none t s he, by rw [held_none t s he]⟩
  | .leaf a, s, i :: L, h, hw, hL, hn, hsp, he => by
    simp only [FT.lo, FT.hi] at hsp
    have hia : i = a := by have := hsp i (by simp); omega
    have hL0 : L = [] := by
      cases L with
      | nil => rfl
      | cons j L =>
        have := hsp j (by simp)
        have : i ≠ j := (List.nodup_cons.1 hn).1 |> fun h e => h (by simp [e])
        omega
    subst hia hL0
    refine ⟨fun j hj => ?_, ?_⟩
    · simp only [fillH, updH_same] at hj
      injection hj with hj; exact hj.symm
    · show ((updH h s (some i)) s).toList.Perm _
      rw [updH_same]; exact List.Perm.refl _
  | .node l r, s, i :: L, h, hw, hL, hn, hsp, he => by
    have hs : (FT.node l r).size = l.size + r.size + 1 := rfl
    have hr : (FT.node l r).root s = s + (l.size + r.size + 1) - 1 := rfl
    have q1 := FT.lo_hi l hw.1
    have q2 := FT.lo_hi r hw.2.1
    have q3 := hw.2.2
    rw [List.pairwise_cons] at hL
    rw [List.nodup_cons] at hn
    have hsp' : ∀ j ∈ i :: L, l.lo ≤ j ∧ j < r.hi := hsp
    simp only [fillH]
    generalize hh1 : updH h ((FT.node l r).root s) (some i) = h1
    have e1 : ∀ k, k ≠ (FT.node l r).root s → h1 k = h k := fun k hk => by rw [← hh1]; exact updH_ne hk
    have e1r : h1 ((FT.node l r).root s) = some i := by rw [← hh1]; exact updH_same _ _ _
    generalize hA : L.filter (fun j => decide (j < l.hi)) = A
    generalize hB : L.filter (fun j => !decide (j < l.hi)) = B
    have hAm : ∀ j, j ∈ A ↔ j ∈ L ∧ j < l.hi := fun j => by rw [← hA]; simp
    have hBm : ∀ j, j ∈ B ↔ j ∈ L ∧ ¬ j < l.hi := fun j => by rw [← hB]; simp
    have IL := fillH_spec (lt := lt) l s A h1 hw.1 (by rw [← hA]; exact hL.2.filter _) (by rw [← hA]; exact hn.2.filter _) (fun j hj => by have := (hAm j).1 hj; have := hsp' j (List.mem_cons_of_mem _ this.1); omega) (fun k h1 h2 => by rw [e1 k (by omega)]; exact he k h1 (by omega))
    generalize hh2 : fillH l s A h1 = h2 at IL ⊢
    have e2 : ∀ k, (k < s ∨ s + l.size ≤ k) → h2 k = h1 k := fun k hk => by rw [← hh2]; exact fillH_out l s A h1 k hk
    have IR := fillH_spec (lt := lt) r (s + l.size) B h2 hw.2.1 (by rw [← hB]; exact hL.2.filter _) (by rw [← hB]; exact hn.2.filter _) (fun j hj => by have := (hBm j).1 hj; have := hsp' j (List.mem_cons_of_mem _ this.1); omega) (fun k h1 h2 => by rw [e2 k (by omega), e1 k (by omega)]; exact he k (by omega) (by omega))
    generalize hh3 : fillH r (s + l.size) B h2 = h3 at IR ⊢
    have e3 : ∀ k, (k < s + l.size ∨ s + l.size + r.size ≤ k) → h3 k = h2 k := fun k hk => by rw [← hh3]; exact fillH_out r _ B h2 k hk
    have e3l : ∀ k, s ≤ k → k < s + l.size → h3 k = h2 k := fun k _ hk => e3 k (.inl hk)
    have e3r : h3 ((FT.node l r).root s) = some i := by rw [e3 _ (by omega), e2 _ (by omega), e1r]
    have hl3 := held_congr l s e3l
    have hp : (A ++ B).Perm L := by rw [← hA, ← hB]; exact List.filter_append_perm _ L
    refine ⟨⟨fun j hj => ?_, fun hj => ?_, IL.1.congr e3l, IR.1⟩, ?_⟩
    · rw [e3r] at hj
      injection hj with hj
      subst hj
      refine ⟨hsp' i (by simp), fun j hj => ?_, fun j hj => ?_⟩
      · rw [hl3] at hj
        exact hL.1 j ((hAm j).1 ((IL.2.mem_iff).1 hj)).1
      · exact hL.1 j ((hBm j).1 ((IR.2.mem_iff).1 hj)).1
    · rw [e3r] at hj; cases hj
    · simp only [held]
      rw [e3r, hl3]
      exact ((IL.2.append IR.2).trans hp).cons i

/-! ### What is told going down -/
/-- what going down tells, what it touches, and whether more is wanted; more: what the closure says each time -/
def downG (more : Bool) (h : Hld) (yv : Nat → Int) (y : Int) (fr ub : Nat) : FT → Nat → List Nat × Nat × Bool
  | .leaf a, s => match h s with
    | none => ([], 1, true)
    | some i => if y < yv i ∨ a + 1 ≤ fr ∨ ub ≤ a then ([], 1, true) else if fr ≤ i ∧ i < ub then ([i], 1, more) else ([], 1, true)
  | .node l r, s => match h ((FT.node l r).root s) with
    | none => ([], 1, true)
    | some i => if y < yv i ∨ r.hi ≤ fr ∨ ub ≤ l.lo then ([], 1, true) else
      if (fr ≤ i ∧ i < ub) ∧ more = false then ([i], 1, false) else
      ((if fr ≤ i ∧ i < ub then [i] else []) ++ (downG more h yv y fr ub l s).1 ++ (if (downG more h yv y fr ub l s).2.2 then (downG more h yv y fr ub r (s + l.size)).1 else []),
       1 + (downG more h yv y fr ub l s).2.1 + (if (downG more h yv y fr ub l s).2.2 then (downG more h yv y fr ub r (s + l.size)).2.1 else 0),
       (downG more h yv y fr ub l s).2.2 && (downG more h yv y fr ub r (s + l.size)).2.2)

/-- what is asked of a place -/
def inH (yv : Nat → Int) (y : Int) (fr ub i : Nat) : Bool := decide (fr ≤ i ∧ i < ub ∧ yv i ≤ y)

section
variable {lt : Nat → Nat → Prop} {h : Hld} {yv : Nat → Int} {y : Int} {fr ub : Nat}
theorem downG_no {more : Bool} {t : FT} {s : Nat} (e : h (t.root s) = none) : downG more h yv y fr ub t s = ([], 1, true) := by
  cases t with
  | leaf a => have e' : h s = none := e; simp only [downG]; rw [e']
  | node l r => simp only [downG]; rw [e]
theorem downG_out {more : Bool} {t : FT} {s i : Nat} (e : h (t.root s) = some i) (hp : y < yv i ∨ t.hi ≤ fr ∨ ub ≤ t.lo) : downG more h yv y fr ub t s = ([], 1, true) := by
  cases t with
  | leaf a =>
    have e' : h s = some i := e
    have hp' : y < yv i ∨ a + 1 ≤ fr ∨ ub ≤ a := hp
    simp only [downG]; rw [e']; simp only; rw [if_pos hp']
  | node l r =>
    have hp' : y < yv i ∨ r.hi ≤ fr ∨ ub ≤ l.lo := hp
    simp only [downG]; rw [e]; simp only; rw [if_pos hp']
theorem downG_leaf {more : Bool} {a s i : Nat} (e : h s = some i) (hp : ¬ (y < yv i ∨ a + 1 ≤ fr ∨ ub ≤ a)) : downG more h yv y fr ub (.leaf a) s = (if fr ≤ i ∧ i < ub then [i] else [], 1, !(decide (fr ≤ i ∧ i < ub) && !more)) := by
  simp only [downG]
  rw [e]
  simp only
  rw [if_neg hp]
  by_cases hin : fr ≤ i ∧ i < ub
  · rw [if_pos hin, if_pos hin]; simp [hin]
  · rw [if_neg hin, if_neg hin]; simp [hin]
theorem downG_stop {t : FT} {s i : Nat} (e : h (t.root s) = some i) (hp : ¬ (y < yv i ∨ t.hi ≤ fr ∨ ub ≤ t.lo)) (hin : fr ≤ i ∧ i < ub) : downG false h yv y fr ub t s = ([i], 1, false) := by
  cases t with
  | leaf a =>
    have e' : h s = some i := e
    rw [downG_leaf e' hp]
    simp [hin]
  | node l r =>
    have hp' : ¬ (y < yv i ∨ r.hi ≤ fr ∨ ub ≤ l.lo) := hp
    simp only [downG]; rw [e]; simp only; rw [if_neg hp']; simp [hin]
theorem downG_node {more : Bool} {l r : FT} {s i : Nat} (e : h ((FT.node l r).root s) = some i) (hp : ¬ (y < yv i ∨ r.hi ≤ fr ∨ ub ≤ l.lo)) (hg : (decide (fr ≤ i ∧ i < ub) && !more) = false) : downG more h yv y fr ub (.node l r) s =
      ((if fr ≤ i ∧ i < ub then [i] else []) ++ (downG more h yv y fr ub l s).1 ++ (if (downG more h yv y fr ub l s).2.2 then (downG more h yv y fr ub r (s + l.size)).1 else []),
       1 + (downG more h yv y fr ub l s).2.1 + (if (downG more h yv y fr ub l s).2.2 then (downG more h yv y fr ub r (s + l.size)).2.1 else 0),
       (downG more h yv y fr ub l s).2.2 && (downG more h yv y fr ub r (s + l.size)).2.2) := by
  have hng : ¬ ((fr ≤ i ∧ i < ub) ∧ more = false) := fun h9 => by
    rw [h9.2] at hg
    simp [h9.1] at hg
  conv => lhs; simp only [downG]
  rw [e]; simp only; rw [if_neg hp, if_neg hng]
theorem downG_in {more : Bool} {t : FT} {s i : Nat} (e : h (t.root s) = some i) (hp : ¬ (y < yv i ∨ t.hi ≤ fr ∨ ub ≤ t.lo)) (hin : fr ≤ i ∧ i < ub) : [i] <+: (downG more h yv y fr ub t s).1 := by
  cases t with
  | leaf a =>
    have e' : h s = some i := e
    rw [downG_leaf e' hp, if_pos hin]
    exact List.prefix_rfl
  | node l r =>
    cases more with
    | false => rw [downG_stop e hp hin]; exact List.prefix_rfl
    | true =>
      rw [downG_node e hp (by simp), if_pos hin, List.append_assoc]
      exact List.prefix_append _ _
/-- below what is left out nothing is wanted -/
theorem pruned {t : FT} {s i : Nat} (hw : t.wf) (ok : HpOK lt h t s) (hlt : ∀ i j, lt i j → yv i ≤ yv j) (e : h (t.root s) = some i) (hp : y < yv i ∨ t.hi ≤ fr ∨ ub ≤ t.lo) : (held h t s).filter (inH yv y fr ub) = [] := by
  refine List.filter_eq_nil_iff.2 fun j hj => ?_
  have h1 := ok.span hw j hj
  have h2 : yv i ≤ yv j := by
    rcases ok.first e j hj with h3 | h3
    · rw [h3]; exact Int.le_refl _
    · exact hlt _ _ h3
  unfold inH
  simp only [decide_eq_true_eq]
  omega
theorem downG_more (hlt : ∀ i j, lt i j → yv i ≤ yv j) : ∀ (t : FT) (s : Nat), t.wf → HpOK lt h t s → (downG true h yv y fr ub t s).1 = (held h t s).filter (inH yv y fr ub) ∧ (downG true h yv y fr ub t s).2.2 = true
  | .leaf a, s, hw, ok => by
    cases e : h s with
    | none => rw [downG_no (t := .leaf a) e, ok.empty e]; exact ⟨rfl, rfl⟩
    | some i =>
      by_cases hp : y < yv i ∨ (FT.leaf a).hi ≤ fr ∨ ub ≤ (FT.leaf a).lo
      · rw [downG_out (t := .leaf a) e hp, pruned hw ok hlt e hp]; exact ⟨rfl, rfl⟩
      · have hia := ok i e
        simp only [downG, held]
        rw [e]
        have hp' : ¬ (y < yv i ∨ a + 1 ≤ fr ∨ ub ≤ a) := hp
        simp only [if_neg hp', Option.toList]
        by_cases hin : fr ≤ i ∧ i < ub
        · rw [if_pos hin]
          have : inH yv y fr ub i = true := by unfold inH; simp only [decide_eq_true_eq]; omega
          simp [this]
        · rw [if_neg hin]
          have : inH yv y fr ub i = false := by unfold inH; simp only [decide_eq_false_iff_not]; omega
          simp [this]
  | .node l r, s, hw, ok => by
    cases e : h ((FT.node l r).root s) with
    | none => rw [downG_no e, ok.empty e]; exact ⟨rfl, rfl⟩
    | some i =>
      by_cases hp : y < yv i ∨ (FT.node l r).hi ≤ fr ∨ ub ≤ (FT.node l r).lo
      · rw [downG_out e hp, pruned hw ok hlt e hp]; exact ⟨rfl, rfl⟩
      · obtain ⟨h1, h2, h3, h4⟩ := ok
        obtain ⟨l1, l2⟩ := downG_more hlt l s hw.1 h3
        obtain ⟨r1, r2⟩ := downG_more hlt r _ hw.2.1 h4
        have hp' : ¬ (y < yv i ∨ r.hi ≤ fr ∨ ub ≤ l.lo) := hp
        simp only [downG, held]
        rw [e]
        simp only [if_neg hp', l1, l2, r1, r2, Option.toList, List.filter_append, List.filter_cons, List.filter_nil]
        by_cases hin : fr ≤ i ∧ i < ub
        · have : inH yv y fr ub i = true := by unfold inH; simp only [decide_eq_true_eq]; omega
          simp [this, hin]
        · have : inH yv y fr ub i = false := by unfold inH; simp only [decide_eq_false_iff_not]; omega
          simp [this, hin]
theorem take_app {α : Type} {a b : List α} (h : a = []) : (a ++ b).take 1 = b.take 1 := by rw [h]; rfl
theorem take_app1 {α : Type} {a b : List α} (h : a ≠ []) : (a ++ b).take 1 = a.take 1 := by
  cases a with
  | nil => exact absurd rfl h
  | cons x a => rfl
theorem downG_one (hlt : ∀ i j, lt i j → yv i ≤ yv j) : ∀ (t : FT) (s : Nat), t.wf → HpOK lt h t s → (downG false h yv y fr ub t s).1 = ((held h t s).filter (inH yv y fr ub)).take 1 ∧ ((downG false h yv y fr ub t s).2.2 = true ↔ (held h t s).filter (inH yv y fr ub) = [])
  | .leaf a, s, hw, ok => by
    cases e : h s with
    | none => rw [downG_no (t := .leaf a) e, ok.empty e]; simp
    | some i =>
      by_cases hp : y < yv i ∨ (FT.leaf a).hi ≤ fr ∨ ub ≤ (FT.leaf a).lo
      · rw [downG_out (t := .leaf a) e hp, pruned hw ok hlt e hp]; simp
      · have hia := ok i e
        simp only [downG, held]
        rw [e]
        have hp' : ¬ (y < yv i ∨ a + 1 ≤ fr ∨ ub ≤ a) := hp
        simp only [if_neg hp', Option.toList]
        by_cases hin : fr ≤ i ∧ i < ub
        · rw [if_pos hin]
          have : inH yv y fr ub i = true := by unfold inH; simp only [decide_eq_true_eq]; omega
          simp [this]
        · rw [if_neg hin]
          have : inH yv y fr ub i = false := by unfold inH; simp only [decide_eq_false_iff_not]; omega
          simp [this]
  | .node l r, s, hw, ok => by
    cases e : h ((FT.node l r).root s) with
    | none => rw [downG_no e, ok.empty e]; simp
    | some i =>
      by_cases hp : y < yv i ∨ (FT.node l r).hi ≤ fr ∨ ub ≤ (FT.node l r).lo
      · rw [downG_out e hp, pruned hw ok hlt e hp]; simp
      · obtain ⟨h1, h2, h3, h4⟩ := ok
        obtain ⟨l1, l2⟩ := downG_one hlt l s hw.1 h3
        obtain ⟨r1, r2⟩ := downG_one hlt r _ hw.2.1 h4
        have hp' : ¬ (y < yv i ∨ r.hi ≤ fr ∨ ub ≤ l.lo) := hp
        simp only [downG, held]
        rw [e]
        simp only [if_neg hp', Option.toList, List.filter_append, List.filter_cons, List.filter_nil]
        by_cases hin : fr ≤ i ∧ i < ub
        · have : inH yv y fr ub i = true := by unfold inH; simp only [decide_eq_true_eq]; omega
          simp [this, hin]
        · have : inH yv y fr ub i = false := by unfold inH; simp only [decide_eq_false_iff_not]; omega
          simp only [hin, false_and, if_false, this, List.nil_append, l1, r1]
          cases hb : (downG false h yv y fr ub l s).2.2 with
          | true =>
            have hl0 := l2.1 hb
            simp only [if_true, Bool.true_and, hl0, List.take_nil, List.nil_append]
            exact ⟨rfl, r2⟩
          | false =>
            have hl0 : (held h l s).filter (inH yv y fr ub) ≠ [] := fun h9 => by rw [l2.2 h9] at hb; cases hb
            simp [hl0]
            exact (take_app1 hl0).symm

/-! ### What is touched -/
theorem downG_told (more : Bool) : ∀ (t : FT) (s : Nat), (downG more h yv y fr ub t s).1.length ≤ (downG more h yv y fr ub t s).2.1
  | .leaf a, s => by
    simp only [downG]
    split
    · simp
    · split
      · simp
      · split <;> simp
  | .node l r, s => by
    have h1 := downG_told more l s
    have h2 := downG_told more r (s + l.size)
    simp only [downG]
    split
    · simp
    · split
      · simp
      · split
        · simp
        · simp only [List.length_append]
          split <;> split <;> simp <;> omega
theorem downG_size (more : Bool) : ∀ (t : FT) (s : Nat), (downG more h yv y fr ub t s).2.1 ≤ t.size
  | .leaf a, s => by
    simp only [downG]
    split
    · simp [FT.size]
    · split
      · simp [FT.size]
      · split <;> simp [FT.size]
  | .node l r, s => by
    have h1 := downG_size more l s
    have h2 := downG_size more r (s + l.size)
    have h3 : (FT.node l r).size = l.size + r.size + 1 := rfl
    simp only [downG]
    split
    · simp; omega
    · split
      · simp; omega
      · split
        · simp; omega
        · simp only
          split <;> omega
/-- within the span each node that is not left out tells -/
theorem downG_all {more : Bool} {m : Nat} (hm : m = if more then 2 else 0) : ∀ (t : FT) (s : Nat), t.wf → HpOK lt h t s → fr ≤ t.lo → t.hi ≤ ub → (downG more h yv y fr ub t s).2.1 ≤ m * (downG more h yv y fr ub t s).1.length + 1
  | .leaf a, s, hw, ok, h1, h2 => by
    simp only [downG]
    split
    · simp
    · split
      · simp
      · split <;> simp
  | .node l r, s, hw, ok, h1, h2 => by
    have hs : (FT.node l r).lo = l.lo ∧ (FT.node l r).hi = r.hi := ⟨rfl, rfl⟩
    have q1 := FT.lo_hi l hw.1
    have q2 := FT.lo_hi r hw.2.1
    have q3 := hw.2.2
    cases e : h ((FT.node l r).root s) with
    | none => rw [downG_no e]; simp
    | some i =>
      have hsp := (ok.1 i e).1
      have hin : fr ≤ i ∧ i < ub := by omega
      simp only [downG]
      rw [e]
      simp only
      split
      · simp
      · cases more with
        | false => simp [hin]
        | true =>
          have il := downG_all hm l s hw.1 ok.2.2.1 (by omega) (by omega)
          have ir := downG_all hm r (s + l.size) hw.2.1 ok.2.2.2 (by omega) (by omega)
          simp only [if_true] at hm
          subst hm
          rw [if_neg (by simp)]
          simp only [hin, and_self, if_true, List.length_append, List.length_cons, List.length_nil]
          split
          · first | omega | (simp only [List.length_append, List.length_cons, List.length_nil]; omega)
          · first | omega | (simp only [List.length_append, List.length_cons, List.length_nil]; omega)
theorem downG_far {more : Bool} {t : FT} {s : Nat} (hp : t.hi ≤ fr ∨ ub ≤ t.lo) : downG more h yv y fr ub t s = ([], 1, true) := by
  cases e : h (t.root s) with
  | none => exact downG_no e
  | some i => exact downG_out e (.inr hp)
theorem downG_end {more : Bool} {m : Nat} (hm : m = if more then 2 else 0) : ∀ (t : FT) (s : Nat), t.wf → HpOK lt h t s → fr ≤ t.lo ∨ t.hi ≤ ub → (downG more h yv y fr ub t s).2.1 ≤ m * (downG more h yv y fr ub t s).1.length + 2 * t.ht + 1
  | .leaf a, s, hw, ok, hh => by
    simp only [downG]
    split
    · simp
    · split
      · simp
      · split <;> simp
  | .node l r, s, hw, ok, hh => by
    have hs : (FT.node l r).lo = l.lo ∧ (FT.node l r).hi = r.hi := ⟨rfl, rfl⟩
    have q1 := FT.lo_hi l hw.1
    have q2 := FT.lo_hi r hw.2.1
    have q3 := hw.2.2
    have il := downG_end hm l s hw.1 ok.2.2.1
    have ir := downG_end hm r (s + l.size) hw.2.1 ok.2.2.2
    have al := downG_all (y := y) (yv := yv) (fr := fr) (ub := ub) hm l s hw.1 ok.2.2.1
    have ar := downG_all (y := y) (yv := yv) (fr := fr) (ub := ub) hm r (s + l.size) hw.2.1 ok.2.2.2
    have key : (downG more h yv y fr ub l s).2.1 + (downG more h yv y fr ub r (s + l.size)).2.1 ≤ m * (downG more h yv y fr ub l s).1.length + m * (downG more h yv y fr ub r (s + l.size)).1.length + 2 * (max l.ht r.ht) + 2 ∧ (downG more h yv y fr ub l s).2.1 ≤ m * (downG more h yv y fr ub l s).1.length + 2 * (max l.ht r.ht) + 1 := by
      rcases hh with hh | hh
      · have il := il (.inl (by omega))
        by_cases hb : l.hi ≤ ub
        · have al := al (by omega) hb
          have ir := ir (.inl (by omega))
          omega
        · rw [downG_far (t := r) (.inr (by omega))]
          simp only [List.length_nil]
          omega
      · have ir := ir (.inr (by omega))
        by_cases ha : fr ≤ r.lo
        · have ar := ar ha (by omega)
          have il := il (.inr (by omega))
          omega
        · rw [downG_far (t := l) (.inl (by omega))]
          simp only [List.length_nil]
          omega
    simp only [downG, FT.ht]
    generalize downG more h yv y fr ub l s = dl at *
    generalize downG more h yv y fr ub r (s + l.size) = dr at *
    obtain ⟨L1, c1, b1⟩ := dl
    obtain ⟨L2, c2, b2⟩ := dr
    simp only at key ⊢
    split
    · simp
    · split
      · simp
      · split
        · simp
        · have hl : ∀ A : List Nat, m * (A ++ L1 ++ L2).length = m * A.length + m * L1.length + m * L2.length := fun A => by rw [List.length_append, List.length_append, Nat.mul_add, Nat.mul_add]
          have hl2 : ∀ A : List Nat, m * (A ++ L1).length = m * A.length + m * L1.length := fun A => by rw [List.length_append, Nat.mul_add]
          cases b1 with
          | true => simp only [if_true]; rw [hl]; omega
          | false => simp only [Bool.false_eq_true, if_false, List.append_nil]; rw [hl2]; omega
theorem downG_cost {more : Bool} {m : Nat} (hm : m = if more then 2 else 0) : ∀ (t : FT) (s : Nat), t.wf → HpOK lt h t s → (downG more h yv y fr ub t s).2.1 ≤ m * (downG more h yv y fr ub t s).1.length + 4 * t.ht + 1
  | .leaf a, s, hw, ok => by
    simp only [downG]
    split
    · simp
    · split
      · simp
      · split <;> simp
  | .node l r, s, hw, ok => by
    have hs : (FT.node l r).lo = l.lo ∧ (FT.node l r).hi = r.hi := ⟨rfl, rfl⟩
    have q1 := FT.lo_hi l hw.1
    have q2 := FT.lo_hi r hw.2.1
    have q3 := hw.2.2
    have il := downG_cost hm l s hw.1 ok.2.2.1
    have ir := downG_cost hm r (s + l.size) hw.2.1 ok.2.2.2
    have el := downG_end (y := y) (yv := yv) (fr := fr) (ub := ub) hm l s hw.1 ok.2.2.1
    have er := downG_end (y := y) (yv := yv) (fr := fr) (ub := ub) hm r (s + l.size) hw.2.1 ok.2.2.2
    have key : (downG more h yv y fr ub l s).2.1 + (downG more h yv y fr ub r (s + l.size)).2.1 ≤ m * (downG more h yv y fr ub l s).1.length + m * (downG more h yv y fr ub r (s + l.size)).1.length + 4 * (max l.ht r.ht) + 2 ∧ (downG more h yv y fr ub l s).2.1 ≤ m * (downG more h yv y fr ub l s).1.length + 4 * (max l.ht r.ht) + 1 := by
      refine ⟨?_, by omega⟩
      by_cases hb : ub ≤ r.lo
      · rw [downG_far (t := r) (.inr hb)]
        simp only [List.length_nil]
        omega
      · by_cases ha : l.hi ≤ fr
        · rw [downG_far (t := l) (.inl ha)]
          simp only [List.length_nil]
          omega
        · have el := el (.inr (by omega))
          have er := er (.inl (by omega))
          omega
    simp only [downG, FT.ht]
    generalize downG more h yv y fr ub l s = dl at *
    generalize downG more h yv y fr ub r (s + l.size) = dr at *
    obtain ⟨L1, c1, b1⟩ := dl
    obtain ⟨L2, c2, b2⟩ := dr
    simp only at key ⊢
    split
    · simp
    · split
      · simp
      · split
        · simp
        · have hl : ∀ A : List Nat, m * (A ++ L1 ++ L2).length = m * A.length + m * L1.length + m * L2.length := fun A => by rw [List.length_append, List.length_append, Nat.mul_add, Nat.mul_add]
          have hl2 : ∀ A : List Nat, m * (A ++ L1).length = m * A.length + m * L1.length := fun A => by rw [List.length_append, Nat.mul_add]
          cases b1 with
          | true => simp only [if_true]; rw [hl]; omega
          | false => simp only [Bool.false_eq_true, if_false, List.append_nil]; rw [hl2]; omega
end

/-! ### One is drawn out -/
/-- a node's place is taken out: the lesser of its kids' places comes up -/
def pullH (lb : Nat → Nat → Bool) : FT → Nat → Hld → Hld
  | .leaf _, s, h => updH h s none
  | .node l r, s, h => match h (l.root s), h (r.root (s + l.size)) with
    | none, none => updH h ((FT.node l r).root s) none
    | some i, none => pullH lb l s (updH h ((FT.node l r).root s) (some i))
    | none, some j => pullH lb r (s + l.size) (updH h ((FT.node l r).root s) (some j))
    | some i, some j => if lb i j then pullH lb l s (updH h ((FT.node l r).root s) (some i)) else pullH lb r (s + l.size) (updH h ((FT.node l r).root s) (some j))

/-- an order of the places ahead of n -/
structure Ord (lt : Nat → Nat → Prop) (lb : Nat → Nat → Bool) (n : Nat) : Prop where
  tr : ∀ i j k, lt i j → lt j k → lt i k
  tot : ∀ i j, i < n → j < n → i ≠ j → lt i j ∨ lt j i
  dec : ∀ i j, lb i j = true ↔ lt i j

section
variable {lt : Nat → Nat → Prop} {lb : Nat → Nat → Bool} {n : Nat}
theorem pullH_out : ∀ (t : FT) (s : Nat) (h : Hld) (k : Nat), (k < s ∨ s + t.size ≤ k) → pullH lb t s h k = h k
  | .leaf a, s, h, k, hk => by
    simp only [FT.size] at hk
    exact updH_ne (by omega)
  | .node l r, s, h, k, hk => by
    have hs : (FT.node l r).size = l.size + r.size + 1 := rfl
    have hr : (FT.node l r).root s = s + (l.size + r.size + 1) - 1 := rfl
    have hu : ∀ v, updH h ((FT.node l r).root s) v k = h k := fun v => updH_ne (by omega)
    simp only [pullH]
    cases h (l.root s) <;> cases h (r.root (s + l.size)) <;> simp only
    · exact hu _
    · rw [pullH_out r _ _ k (by omega), hu]
    · rw [pullH_out l s _ k (by omega), hu]
    · split
      · rw [pullH_out l s _ k (by omega), hu]
      · rw [pullH_out r _ _ k (by omega), hu]

/-- a kid's place has come up, and was taken out of the kid -/
theorem pull_up {l r : FT} {s i : Nat} {h h2 : Hld} (hw : (FT.node l r).wf)
    (e2 : h2 ((FT.node l r).root s) = some i) (okl : HpOK lt h2 l s) (okr : HpOK lt h2 r (s + l.size)) (hsp : l.lo ≤ i ∧ i < r.hi)
    (hl : ∀ j ∈ held h2 l s, lt i j) (hr : ∀ j ∈ held h2 r (s + l.size), lt i j) : HpOK lt h2 (.node l r) s :=
  ⟨fun j hj => by
    rw [e2] at hj
    injection hj with hj
    subst hj
    exact ⟨hsp, hl, hr⟩, (fun hj => by rw [e2] at hj; cases hj), okl, okr⟩

theorem pullH_spec (O : Ord lt lb n) : ∀ (t : FT) (s : Nat) (h : Hld) (x : Nat), t.wf → t.hi ≤ n → HpOK lt h t s → h (t.root s) = some x → (held h t s).Nodup →
    HpOK lt (pullH lb t s h) t s ∧ (x :: held (pullH lb t s h) t s).Perm (held h t s)
  | .leaf a, s, h, x, hw, hn, ok, e, nd => by
    have e' : h s = some x := e
    refine ⟨fun i hi => ?_, ?_⟩
    · simp only [pullH, updH_same] at hi; cases hi
    · show (x :: ((updH h s none) s).toList).Perm (h s).toList
      rw [updH_same, e']; exact List.Perm.refl _
  | .node l r, s, h, x, hw, hn, ok, e, nd => by
    have hs : (FT.node l r).size = l.size + r.size + 1 := rfl
    have hr : (FT.node l r).root s = s + (l.size + r.size + 1) - 1 := rfl
    have lr : l.root s = s + l.size - 1 := rfl
    have rr : r.root (s + l.size) = s + l.size + r.size - 1 := rfl
    have pl := l.size_pos
    have pr := r.size_pos
    have q1 := FT.lo_hi l hw.1
    have q2 := FT.lo_hi r hw.2.1
    have q3 := hw.2.2
    have hn' : r.hi ≤ n := hn
    obtain ⟨h1, h2, okl, okr⟩ := ok
    have hh : held h (.node l r) s = x :: (held h l s ++ held h r (s + l.size)) := by simp only [held]; rw [e]; rfl
    rw [hh] at nd ⊢
    have nd2 := (List.nodup_cons.1 nd).2
    rw [List.nodup_append] at nd2
    obtain ⟨ndl, ndr, ndd⟩ := nd2
    have hu : ∀ v k, k ≠ (FT.node l r).root s → updH h ((FT.node l r).root s) v k = h k := fun v k hk => updH_ne hk
    have hus : ∀ v, updH h ((FT.node l r).root s) v ((FT.node l r).root s) = v := fun v => updH_same _ _ _
    have hul : ∀ v, ∀ k, s ≤ k → k < s + l.size → updH h ((FT.node l r).root s) v k = h k := fun v k h1 h2 => hu v k (by omega)
    have hur : ∀ v, ∀ k, s + l.size ≤ k → k < s + l.size + r.size → updH h ((FT.node l r).root s) v k = h k := fun v k h1 h2 => hu v k (by omega)
    have goL : ∀ i, h (l.root s) = some i → (∀ j ∈ held h r (s + l.size), lt i j) →
        HpOK lt (pullH lb l s (updH h ((FT.node l r).root s) (some i))) (.node l r) s ∧ (x :: held (pullH lb l s (updH h ((FT.node l r).root s) (some i))) (.node l r) s).Perm (x :: (held h l s ++ held h r (s + l.size))) := fun i ei hri => by
      have hus' := hus (some i)
      have hul' := hul (some i)
      have hur' := hur (some i)
      have ei' : updH h ((FT.node l r).root s) (some i) (l.root s) = some i := by rw [hu _ _ (by omega)]; exact ei
      generalize updH h ((FT.node l r).root s) (some i) = h1' at *
      have hl1 := held_congr l s hul'
      have hr1 := held_congr r _ hur'
      obtain ⟨a1, a2⟩ := pullH_spec O l s h1' i hw.1 (by omega) (okl.congr hul') ei' (by rw [hl1]; exact ndl)
      have ho := pullH_out (lb := lb) l s h1'
      generalize pullH lb l s h1' = hh2 at *
      rw [hl1] at a2
      have er : ∀ k, s + l.size ≤ k → k < s + l.size + r.size → hh2 k = h k := fun k k1 k2 => by rw [ho k (.inr k1)]; exact hur' k k1 k2
      have e2 : hh2 ((FT.node l r).root s) = some i := by rw [ho _ (by omega)]; exact hus'
      have nd3 : (i :: held hh2 l s).Nodup := a2.nodup_iff.2 ndl
      have hil : i ∈ held h l s := a2.mem_iff.1 (by simp)
      have hsp := okl.span hw.1 i hil
      refine ⟨pull_up (h := h) hw e2 a1 (okr.congr er) (by omega) (fun j hj => ?_) (fun j hj => ?_), ?_⟩
      · rcases okl.first ei j (a2.mem_iff.1 (List.mem_cons_of_mem _ hj)) with h9 | h9
        · subst h9; exact absurd hj (List.nodup_cons.1 nd3).1
        · exact h9
      · rw [held_congr r _ er] at hj; exact hri j hj
      · refine List.Perm.cons x ?_
        simp only [held]
        rw [e2, held_congr r _ er]
        exact a2.append_right _
    have goR : ∀ i, h (r.root (s + l.size)) = some i → (∀ j ∈ held h l s, lt i j) →
        HpOK lt (pullH lb r (s + l.size) (updH h ((FT.node l r).root s) (some i))) (.node l r) s ∧ (x :: held (pullH lb r (s + l.size) (updH h ((FT.node l r).root s) (some i))) (.node l r) s).Perm (x :: (held h l s ++ held h r (s + l.size))) := fun i ei hri => by
      have hus' := hus (some i)
      have hul' := hul (some i)
      have hur' := hur (some i)
      have ei' : updH h ((FT.node l r).root s) (some i) (r.root (s + l.size)) = some i := by rw [hu _ _ (by omega)]; exact ei
      generalize updH h ((FT.node l r).root s) (some i) = h1' at *
      have hl1 := held_congr l s hul'
      have hr1 := held_congr r _ hur'
      obtain ⟨a1, a2⟩ := pullH_spec O r (s + l.size) h1' i hw.2.1 (by omega) (okr.congr hur') ei' (by rw [hr1]; exact ndr)
      have ho := pullH_out (lb := lb) r (s + l.size) h1'
      generalize pullH lb r (s + l.size) h1' = hh2 at *
      rw [hr1] at a2
      have el : ∀ k, s ≤ k → k < s + l.size → hh2 k = h k := fun k k1 k2 => by rw [ho k (.inl k2)]; exact hul' k k1 k2
      have e2 : hh2 ((FT.node l r).root s) = some i := by rw [ho _ (by omega)]; exact hus'
      have nd3 : (i :: held hh2 r (s + l.size)).Nodup := a2.nodup_iff.2 ndr
      have hil : i ∈ held h r (s + l.size) := a2.mem_iff.1 (by simp)
      have hsp := okr.span hw.2.1 i hil
      refine ⟨pull_up (h := h) hw e2 (okl.congr el) a1 (by omega) (fun j hj => ?_) (fun j hj => ?_), ?_⟩
      · rw [held_congr l _ el] at hj; exact hri j hj
      · rcases okr.first ei j (a2.mem_iff.1 (List.mem_cons_of_mem _ hj)) with h9 | h9
        · subst h9; exact absurd hj (List.nodup_cons.1 nd3).1
        · exact h9
      · refine List.Perm.cons x ?_
        simp only [held]
        rw [e2, held_congr l _ el]
        show (i :: (held h l s ++ held hh2 r (s + l.size))).Perm _
        exact (List.perm_middle.symm).trans (a2.append_left _)
    have spL : ∀ i, h (l.root s) = some i → i < n ∧ i < l.hi := fun i ei => by
      obtain ⟨L, eL⟩ := held_root ei
      have := okl.span hw.1 i (by rw [eL]; simp)
      omega
    have spR : ∀ i, h (r.root (s + l.size)) = some i → i < n ∧ r.lo ≤ i := fun i ei => by
      obtain ⟨L, eL⟩ := held_root ei
      have := okr.span hw.2.1 i (by rw [eL]; simp)
      omega
    simp only [pullH]
    split
    · rename_i ea eb
      have z1 := okl.empty ea
      have z2 := okr.empty eb
      have hus' := hus none
      have hul' := hul none
      have hur' := hur none
      generalize updH h ((FT.node l r).root s) none = h1' at *
      refine ⟨⟨fun j hj => ?_, fun _ => ?_, okl.congr hul', okr.congr hur'⟩, ?_⟩
      · rw [hus'] at hj; cases hj
      · rw [held_congr l s hul', held_congr r _ hur']; exact ⟨z1, z2⟩
      · refine List.Perm.cons x ?_
        simp only [held]
        rw [hus', held_congr l s hul', held_congr r _ hur']
        exact List.Perm.refl _
    · rename_i i ea eb
      exact goL i ea (fun j hj => by rw [okr.empty eb] at hj; exact absurd hj List.not_mem_nil)
    · rename_i j ea eb
      exact goR j eb (fun k hk => by rw [okl.empty ea] at hk; exact absurd hk List.not_mem_nil)
    · rename_i i j ea eb
      split
      · rename_i hb
        have hij := (O.dec i j).1 hb
        refine goL i ea fun k hk => ?_
        rcases okr.first eb k hk with h9 | h9
        · rw [h9]; exact hij
        · exact O.tr _ _ _ hij h9
      · rename_i hb
        have hij : lt j i := by
          have h5 := spL i ea
          have h6 := spR j eb
          rcases O.tot i j h5.1 h6.1 (by omega) with h9 | h9
          · exact absurd ((O.dec i j).2 h9) hb
          · exact h9
        refine goR j eb fun k hk => ?_
        rcases okl.first ea k hk with h9 | h9
        · rw [h9]; exact hij
        · exact O.tr _ _ _ hij h9

/-- one place is looked for on its way, and drawn out -/
def dropH (lb : Nat → Nat → Bool) : FT → Nat → Nat → Hld → Hld
  | .leaf a, s, x, h => pullH lb (.leaf a) s h
  | .node l r, s, x, h => if h ((FT.node l r).root s) = some x then pullH lb (.node l r) s h else if x < l.hi then dropH lb l s x h else dropH lb r (s + l.size) x h
theorem dropH_out : ∀ (t : FT) (s x : Nat) (h : Hld) (k : Nat), (k < s ∨ s + t.size ≤ k) → dropH lb t s x h k = h k
  | .leaf a, s, x, h, k, hk => pullH_out (.leaf a) s h k hk
  | .node l r, s, x, h, k, hk => by
    have hs : (FT.node l r).size = l.size + r.size + 1 := rfl
    simp only [dropH]
    split
    · exact pullH_out _ s h k hk
    · split
      · exact dropH_out l s x h k (by omega)
      · exact dropH_out r _ x h k (by omega)
theorem dropH_spec (O : Ord lt lb n) : ∀ (t : FT) (s : Nat) (h : Hld) (x : Nat), t.wf → t.hi ≤ n → HpOK lt h t s → x ∈ held h t s → (held h t s).Nodup →
    HpOK lt (dropH lb t s x h) t s ∧ (x :: held (dropH lb t s x h) t s).Perm (held h t s)
  | .leaf a, s, h, x, hw, hn, ok, hx, nd => by
    have e : h s = some x := by simpa [held] using hx
    exact pullH_spec O (.leaf a) s h x hw hn ok e nd
  | .node l r, s, h, x, hw, hn, ok, hx, nd => by
    have hs : (FT.node l r).size = l.size + r.size + 1 := rfl
    have hr : (FT.node l r).root s = s + (l.size + r.size + 1) - 1 := rfl
    have pl := l.size_pos
    have pr := r.size_pos
    have q1 := FT.lo_hi l hw.1
    have q2 := FT.lo_hi r hw.2.1
    have q3 := hw.2.2
    have hn' : r.hi ≤ n := hn
    simp only [dropH]
    split
    · rename_i e
      exact pullH_spec O _ s h x hw hn ok e nd
    · rename_i e
      obtain ⟨h1, h2, okl, okr⟩ := ok
      have hx' := hx
      simp only [held, List.mem_append, Option.mem_toList, e, false_or] at hx'
      cases er : h ((FT.node l r).root s) with
      | none =>
        obtain ⟨z1, z2⟩ := h2 er
        rw [z1, z2] at hx'
        rcases hx' with hx' | hx' <;> exact absurd hx' List.not_mem_nil
      | some i =>
        have hh : held h (.node l r) s = i :: (held h l s ++ held h r (s + l.size)) := by simp only [held]; rw [er]; rfl
        rw [hh] at nd ⊢
        have nd2 := (List.nodup_cons.1 nd).2
        rw [List.nodup_append] at nd2
        obtain ⟨ndl, ndr, ndd⟩ := nd2
        obtain ⟨c1, c2, c3⟩ := h1 i er
        split
        · rename_i hlt
          have hxl : x ∈ held h l s := by
            rcases hx' with h9 | h9
            · exact h9
            · have := okr.span hw.2.1 x h9; omega
          obtain ⟨a1, a2⟩ := dropH_spec O l s h x hw.1 (by omega) okl hxl ndl
          have ho := dropH_out (lb := lb) l s x h
          generalize dropH lb l s x h = h2' at *
          have ehr : ∀ k, s + l.size ≤ k → k < s + l.size + r.size → h2' k = h k := fun k k1 k2 => ho k (.inr k1)
          have e2 : h2' ((FT.node l r).root s) = some i := by rw [ho _ (by omega)]; exact er
          refine ⟨pull_up (h := h) hw e2 a1 (okr.congr ehr) c1 (fun j hj => c2 j (a2.mem_iff.1 (List.mem_cons_of_mem _ hj))) (fun j hj => by rw [held_congr r _ ehr] at hj; exact c3 j hj), ?_⟩
          simp only [held]
          rw [e2, held_congr r _ ehr]
          show (x :: i :: (held h2' l s ++ held h r (s + l.size))).Perm _
          exact (List.Perm.swap _ _ _).trans ((a2.append_right _).cons i)
        · rename_i hlt
          have hxr : x ∈ held h r (s + l.size) := by
            rcases hx' with h9 | h9
            · have := okl.span hw.1 x h9; omega
            · exact h9
          obtain ⟨a1, a2⟩ := dropH_spec O r (s + l.size) h x hw.2.1 (by omega) okr hxr ndr
          have ho := dropH_out (lb := lb) r (s + l.size) x h
          generalize dropH lb r (s + l.size) x h = h2' at *
          have ehl : ∀ k, s ≤ k → k < s + l.size → h2' k = h k := fun k k1 k2 => ho k (.inl k2)
          have e2 : h2' ((FT.node l r).root s) = some i := by rw [ho _ (by omega)]; exact er
          refine ⟨pull_up (h := h) hw e2 (okl.congr ehl) a1 c1 (fun j hj => by rw [held_congr l _ ehl] at hj; exact c2 j hj) (fun j hj => c3 j (a2.mem_iff.1 (List.mem_cons_of_mem _ hj))), ?_⟩
          simp only [held]
          rw [e2, held_congr l _ ehl]
          show (x :: i :: (held h l s ++ held h2' r (s + l.size))).Perm _
          refine (List.Perm.swap _ _ _).trans (List.Perm.cons i ?_)
          exact (List.perm_middle.symm).trans (a2.append_left _)

/-- where the way to a place meets it -/
theorem path_hold : ∀ (t : FT) (s : Nat) (h : Hld) (x : Nat), t.wf → HpOK lt h t s → t.lo ≤ x → x < t.hi →
    ((∀ k ∈ t.path s x, h k ≠ some x) → x ∉ held h t s) ∧
    ∀ m k : Nat, (t.path s x)[m]? = some k → h k = some x → (∀ i < m, ∀ k', (t.path s x)[i]? = some k' → h k' ≠ some x) → ∃ t' s', (t', s') ∈ t.subs s ∧ k = t'.root s' ∧ dropH lb t s x h = pullH lb t' s' h
  | .leaf a, s, h, x, hw, ok, h1, h2 => by
    refine ⟨fun hk hx => hk s (by simp [FT.path]) (by simpa [held] using hx), fun m k hm hk hf => ?_⟩
    have hm0 : m = 0 ∧ k = s := by
      cases m with
      | zero => simp [FT.path] at hm; exact ⟨rfl, hm.symm⟩
      | succ m => simp [FT.path] at hm
    exact ⟨.leaf a, s, by simp [FT.subs], by rw [hm0.2]; rfl, rfl⟩
  | .node l r, s, h, x, hw, ok, h1, h2 => by
    have q3 := hw.2.2
    have h1' : l.lo ≤ x := h1
    have h2' : x < r.hi := h2
    obtain ⟨c1, c2, okl, okr⟩ := ok
    have spl := okl.span hw.1
    have spr := okr.span hw.2.1
    have step : ∀ (t2 : FT) (s2 : Nat), (FT.node l r).path s x = (FT.node l r).root s :: t2.path s2 x → (∀ p ∈ t2.subs s2, p ∈ (FT.node l r).subs s) →
        (x ∈ held h (.node l r) s → h ((FT.node l r).root s) ≠ some x → x ∈ held h t2 s2) → (h ((FT.node l r).root s) ≠ some x → dropH lb (.node l r) s x h = dropH lb t2 s2 x h) →
        (((∀ k ∈ t2.path s2 x, h k ≠ some x) → x ∉ held h t2 s2) ∧ ∀ m k : Nat, (t2.path s2 x)[m]? = some k → h k = some x → (∀ i < m, ∀ k', (t2.path s2 x)[i]? = some k' → h k' ≠ some x) → ∃ t' s', (t', s') ∈ t2.subs s2 ∧ k = t'.root s' ∧ dropH lb t2 s2 x h = pullH lb t' s' h) →
        ((∀ k ∈ (FT.node l r).path s x, h k ≠ some x) → x ∉ held h (.node l r) s) ∧
          ∀ m k : Nat, ((FT.node l r).path s x)[m]? = some k → h k = some x → (∀ i < m, ∀ k', ((FT.node l r).path s x)[i]? = some k' → h k' ≠ some x) → ∃ t' s', (t', s') ∈ (FT.node l r).subs s ∧ k = t'.root s' ∧ dropH lb (.node l r) s x h = pullH lb t' s' h := by
      intro t2 s2 ep hsub hin hdr ih
      rw [ep]
      refine ⟨fun hk hx => ?_, fun m k hm hk hf => ?_⟩
      · exact ih.1 (fun k hk2 => hk k (List.mem_cons_of_mem _ hk2)) (hin hx (hk _ (by simp)))
      · cases m with
        | zero =>
          simp only [List.getElem?_cons_zero, Option.some.injEq] at hm
          subst hm
          exact ⟨.node l r, s, by simp [FT.subs], rfl, by simp only [dropH]; rw [if_pos hk]⟩
        | succ m =>
          have hr0 := hf 0 (by omega) ((FT.node l r).root s) (by simp)
          obtain ⟨t', s', a1, a2, a3⟩ := ih.2 m k (by simpa using hm) hk (fun i hi k' hk' => hf (i + 1) (by omega) k' (by simpa using hk'))
          exact ⟨t', s', hsub _ a1, a2, by rw [hdr hr0]; exact a3⟩
    by_cases hx : x < l.hi
    · refine step l s (by rw [FT.path, if_pos hx]) (fun p hp => by simp only [FT.subs, List.mem_append]; exact .inl (.inl hp)) (fun hh hr => ?_) (fun hr => by simp only [dropH]; rw [if_neg hr, if_pos hx]) (path_hold l s h x hw.1 okl h1' hx)
      simp only [held, List.mem_append, Option.mem_toList, hr, false_or] at hh
      rcases hh with hh | hh
      · exact hh
      · have := spr x hh; omega
    · refine step r (s + l.size) (by rw [FT.path, if_neg hx]) (fun p hp => by simp only [FT.subs, List.mem_append]; exact .inl (.inr hp)) (fun hh hr => ?_) (fun hr => by simp only [dropH]; rw [if_neg hr, if_neg hx]) (path_hold r _ h x hw.2.1 okr (by omega) h2')
      simp only [held, List.mem_append, Option.mem_toList, hr, false_or] at hh
      rcases hh with hh | hh
      · have := spl x hh; omega
      · exact hh
end
end Go.Proofs.YtggfdlanobndjaaGreat
