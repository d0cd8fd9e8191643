/- The plain law of the band: the lists of its nodes, what a box is told of them, what is touched. No function of the program is walked here. -/
import Derived.Test.YtggfdlanobndjaaGreatQ5
namespace Go.Proofs.YtggfdlanobndjaaGreat
open Go Go.RowKit
set_option linter.unusedVariables false
set_option linter.unusedSimpArgs false

/-- of the living places by Y those of a node -/
def lkd (YS : List Nat) (d : Nd) : List Nat := YS.filter fun i => decide (d.fr ≤ (i : Int) ∧ (i : Int) < d.til)
def lk (N : List Nd) (YS : List Nat) (k : Nat) : List Nat := match N[k]? with | some d => lkd YS d | none => []

section
variable {N : List Nd} {YS : List Nat} {yv : Nat → Int} {y1 y2 : Int}
theorem lkd_top (t : FT) (s : Nat) : lkd YS (t.top s) = nl YS t := by
  unfold lkd nl
  refine List.filter_congr fun i _ => ?_
  rw [FT.top_fr, FT.top_to, decide_eq_decide]
  omega
theorem lk_at {t : FT} {s : Nat} (h : FT.At N t s) : lk N YS (t.root s) = nl YS t := by
  unfold lk
  rw [h.get]
  exact lkd_top t s
theorem lk_sub (k : Nat) : (lk N YS k).Sublist YS := by
  unfold lk
  split
  · exact List.filter_sublist
  · exact List.nil_sublist _
theorem lk_len (k : Nat) : (lk N YS k).length ≤ YS.length := (lk_sub k).length_le

/-- the nodes of a range tell the living places of the range -/
theorem canon_mem {a b : Nat} (i : Nat) : ∀ (t : FT) (s : Nat), FT.At N t s → t.wf → (i ∈ (t.canon s a b).1.flatMap (fun k => btw yv y1 y2 (lk N YS k)) ↔ i ∈ nl YS t ∧ a ≤ i ∧ i < b ∧ y1 ≤ yv i ∧ yv i ≤ y2) := by
  have hin : ∀ t : FT, i ∈ nl YS t → t.lo ≤ i ∧ i < t.hi := fun t hi => by simpa using (List.mem_filter.1 hi).2
  have one : ∀ (t : FT) (s : Nat), FT.At N t s → a ≤ t.lo → t.hi ≤ b → (i ∈ [t.root s].flatMap (fun k => btw yv y1 y2 (lk N YS k)) ↔ i ∈ nl YS t ∧ a ≤ i ∧ i < b ∧ y1 ≤ yv i ∧ yv i ≤ y2) := fun t s h h1 h2 => by
    rw [List.flatMap_cons, List.flatMap_nil, List.append_nil, lk_at h]
    unfold btw
    rw [List.mem_filter, decide_eq_true_eq]
    constructor
    · rintro ⟨h3, h4⟩
      have := hin t h3
      exact ⟨h3, by omega, by omega, h4⟩
    · rintro ⟨h3, _, _, h4⟩
      exact ⟨h3, h4⟩
  intro t
  induction t with
  | leaf x =>
    intro s h hw
    by_cases h0 : (FT.leaf x).hi ≤ a ∨ b ≤ (FT.leaf x).lo
    · rw [FT.canon_out h0]
      refine ⟨fun h => absurd h (by simp), fun ⟨h1, h2, h3, _⟩ => ?_⟩
      have := hin _ h1
      rcases h0 with h0 | h0 <;> omega
    · rw [FT.canon, if_neg h0]
      refine one _ s h ?_ ?_
      · simp only [FT.hi, FT.lo] at h0 ⊢; omega
      · simp only [FT.hi, FT.lo] at h0 ⊢; omega
  | node l r il ir =>
    intro s h hw
    by_cases h0 : (FT.node l r).hi ≤ a ∨ b ≤ (FT.node l r).lo
    · rw [FT.canon_out h0]
      refine ⟨fun h => absurd h (by simp), fun ⟨h1, h2, h3, _⟩ => ?_⟩
      have := hin _ h1
      rcases h0 with h0 | h0 <;> omega
    · by_cases h1 : a ≤ (FT.node l r).lo ∧ (FT.node l r).hi ≤ b
      · rw [FT.canon_in h0 h1]
        exact one _ s h h1.1 h1.2
      · rw [FT.canon_part h0 h1]
        show i ∈ ((_ : List Nat) ++ _).flatMap _ ↔ _
        rw [List.flatMap_append, List.mem_append, il s h.left hw.1, ir _ h.right hw.2.1, nl_left YS l r hw, nl_right YS l r hw, List.mem_filter, List.mem_filter, decide_eq_true_eq, Bool.not_eq_true', decide_eq_false_iff_not]
        constructor
        · rintro (⟨⟨h2, _⟩, h3⟩ | ⟨⟨h2, _⟩, h3⟩) <;> exact ⟨h2, h3⟩
        · rintro ⟨h2, h3⟩
          by_cases h4 : i < l.hi
          · exact .inl ⟨⟨h2, h4⟩, h3⟩
          · exact .inr ⟨⟨h2, h4⟩, h3⟩

theorem canon_nodup {a b : Nat} (hn : YS.Nodup) : ∀ (t : FT) (s : Nat), FT.At N t s → t.wf → ((t.canon s a b).1.flatMap (fun k => btw yv y1 y2 (lk N YS k))).Nodup := by
  have one : ∀ (t : FT) (s : Nat), FT.At N t s → ([t.root s].flatMap (fun k => btw yv y1 y2 (lk N YS k))).Nodup := fun t s h => by
    rw [List.flatMap_cons, List.flatMap_nil, List.append_nil]
    exact List.Pairwise.filter _ (hn.sublist (lk_sub _))
  intro t
  induction t with
  | leaf x =>
    intro s h hw
    rw [FT.canon]
    split
    · simp
    · exact one _ s h
  | node l r il ir =>
    intro s h hw
    rw [FT.canon]
    split
    · simp
    · split
      · exact one _ s h
      · show (((_ : List Nat) ++ _).flatMap _).Nodup
        rw [List.flatMap_append]
        refine List.nodup_append.2 ⟨il s h.left hw.1, ir _ h.right hw.2.1, fun i hi k hk e => ?_⟩
        subst e
        have h1 := ((canon_mem i l s h.left hw.1).1 hi).1
        have h2 := ((canon_mem i r _ h.right hw.2.1).1 hk).1
        have h3 : l.lo ≤ i ∧ i < l.hi := by simpa using (List.mem_filter.1 h1).2
        have h4 : r.lo ≤ i ∧ i < r.hi := by simpa using (List.mem_filter.1 h2).2
        have := hw.2.2
        omega
end

/-- so many are told as are entered, at most -/
theorem FT.canon_few {a b : Nat} : ∀ (t : FT) (s : Nat), (t.canon s a b).1.length ≤ (t.canon s a b).2 := by
  intro t
  induction t with
  | leaf x =>
    intro s
    rw [FT.canon]
    split <;> simp
  | node l r il ir =>
    intro s
    rw [FT.canon]
    split
    · simp
    · split
      · simp
      · have h1 := il s
        have h2 := ir (s + l.size)
        show ((_ : List Nat) ++ _).length ≤ _ + _ + 1
        rw [List.length_append]
        omega
theorem FT.canon_lt {N : List Nd} {a b : Nat} : ∀ (t : FT) (s : Nat), FT.At N t s → ∀ k ∈ (t.canon s a b).1, k < N.length := by
  intro t
  induction t with
  | leaf x =>
    intro s h k hk
    rw [FT.canon] at hk
    split at hk
    · cases hk
    · obtain rfl := List.mem_singleton.1 hk
      exact h.lt
  | node l r il ir =>
    intro s h k hk
    rw [FT.canon] at hk
    split at hk
    · cases hk
    · split at hk
      · obtain rfl := List.mem_singleton.1 hk
        exact h.lt
      · rcases List.mem_append.1 hk with hk | hk
        · exact il s h.left k hk
        · exact ir _ h.right k hk

/-- the first one, and the one behind the last, of the row in a box -/
def bfr (R : List Pt) (x1 : Int) : Nat := (rkFirst (xsR R) x1).1
def bto (R : List Pt) (x2 : Int) : Nat := (rkAbove (xsR R) x2).1
/-- the nodes of a box -/
def bcn (R : List Pt) (x1 x2 : Int) : List Nat × Nat := (mkT 0 R.length).canon 0 (bfr R x1) (bto R x2)

/-- what a box is told, and what is touched, a list costing so many -/
def bandR (cost : List Nat → Nat) (R : List Pt) (YS : List Nat) (x1 x2 y1 y2 : Int) : List Nat × Nat :=
  if x2 < x1 ∨ y2 < y1 then ([], 0) else if bto R x2 ≤ bfr R x1 then ([], (rkFirst (xsR R) x1).2 + (rkAbove (xsR R) x2).2) else
    ((bcn R x1 x2).1.flatMap (fun k => btw (yvR R) y1 y2 (lk (nds R.length) YS k)), (rkFirst (xsR R) x1).2 + (rkAbove (xsR R) x2).2 + (bcn R x1 x2).2 + ((bcn R x1 x2).1.map fun k => cost (lk (nds R.length) YS k)).sum)

def costC (R : List Pt) (y1 y2 : Int) (L : List Nat) : Nat := (rkFirst (L.map (yvR R)) y1).2 + (rkAbove (L.map (yvR R)) y2).2
def costR (R : List Pt) (y1 y2 : Int) (L : List Nat) : Nat := (rkFirst (L.map (yvR R)) y1).2 + (btw (yvR R) y1 y2 L).length + (if upto (yvR R) y2 L < L.length then 1 else 0)

section
variable {R : List Pt} {gone : List Bool} {YS : List Nat} {l : List Pt}
theorem bfr_len (R : List Pt) (x1 : Int) : bfr R x1 ≤ R.length := by
  have := bsrch_lk (fun i => decide (x1 ≤ (xsR R).getD i 0)) (xsR R).length
  have e : (xsR R).length = R.length := by simp [xsR]
  unfold bfr rkFirst
  omega
theorem bto_len (R : List Pt) (x2 : Int) : bto R x2 ≤ R.length := by
  have := bsrch_lk (fun i => decide (x2 < (xsR R).getD i 0)) (xsR R).length
  have e : (xsR R).length = R.length := by simp [xsR]
  unfold bto rkAbove
  omega
theorem bandR_mem (cost : List Nat → Nat) (hW : CscWF R gone YS) (x1 x2 y1 y2 : Int) (i : Nat) : i ∈ (bandR cost R YS x1 x2 y1 y2).1 ↔ i ∈ YS ∧ inB x1 x2 y1 y2 (ptAt R i) = true := by
  have key : i ∈ YS → ((bfr R x1 ≤ i ↔ x1 ≤ (ptAt R i).1) ∧ (i < bto R x2 ↔ (ptAt R i).1 ≤ x2)) := fun hi => by
    have hl := hW.lt hi
    have hxl : i < (xsR R).length := by unfold xsR; simpa using hl
    have hxi : (xsR R)[i] = (ptAt R i).1 := by rw [ptAt_eq hl]; simp [xsR]
    unfold bfr bto
    rw [rkFirst_iff hW.xsS x1 hxl, rkAbove_iff hW.xsS x2 hxl, hxi]
    exact ⟨Iff.rfl, Iff.rfl⟩
  have out : ∀ h : x2 < x1 ∨ y2 < y1 ∨ bto R x2 ≤ bfr R x1, ¬ (i ∈ YS ∧ inB x1 x2 y1 y2 (ptAt R i) = true) := fun h ⟨h1, h2⟩ => by
    unfold inB at h2
    rw [decide_eq_true_eq] at h2
    obtain ⟨k1, k2⟩ := key h1
    have := k1.2 h2.1
    have := k2.2 h2.2.1
    omega
  unfold bandR
  split
  · rename_i h
    refine ⟨fun h9 => absurd h9 List.not_mem_nil, fun h9 => absurd h9 (out (by omega))⟩
  · split
    · rename_i h
      refine ⟨fun h9 => absurd h9 List.not_mem_nil, fun h9 => absurd h9 (out (by omega))⟩
    · rename_i h0 h
      have hR : 0 < R.length := by have := bto_len R x2; omega
      obtain ⟨w1, w2, w3⟩ := mkT_spec 0 R.length hR
      show i ∈ (bcn R x1 x2).1.flatMap _ ↔ _
      unfold bcn
      rw [canon_mem i (mkT 0 R.length) 0 (nds_at _ hR) w1, hW.top hR]
      refine and_congr_right fun hi => ?_
      obtain ⟨k1, k2⟩ := key hi
      rw [k1, k2]
      unfold inB yvR
      simp only [decide_eq_true_eq]
theorem bandR_nodup (cost : List Nat → Nat) (hW : CscWF R gone YS) (x1 x2 y1 y2 : Int) : (bandR cost R YS x1 x2 y1 y2).1.Nodup := by
  unfold bandR
  split
  · exact List.nodup_nil
  · split
    · exact List.nodup_nil
    · rename_i h0 h
      have hR : 0 < R.length := by have := bto_len R x2; omega
      obtain ⟨w1, w2, w3⟩ := mkT_spec 0 R.length hR
      exact canon_nodup hW.nodup (mkT 0 R.length) 0 (nds_at _ hR) w1

/-- what is told are the names of the box's points -/
theorem bandR_names (cost : List Nat → Nat) (hW : CscWF R gone YS) (hl : Lives R YS l) (x1 x2 y1 y2 : Int) : srtI ((bandR cost R YS x1 x2 y1 y2).1.map (nmR R)) = hasB l x1 x2 y1 y2 ∧ (bandR cost R YS x1 x2 y1 y2).1.length = (l.filter (inB x1 x2 y1 y2)).length := by
  obtain ⟨e1, e2⟩ := askR_names hW hl x1 x2 y1 y2
  have hp : (bandR cost R YS x1 x2 y1 y2).1.Perm (askR R YS x1 x2 y1 y2).1 := (List.perm_ext_iff_of_nodup (bandR_nodup cost hW x1 x2 y1 y2) (askR_nodup hW x1 x2 y1 y2)).2 fun i => by
    rw [bandR_mem cost hW, askR_mem hW]
  rw [hp.length_eq, ← e2, ← e1]
  refine ⟨?_, rfl⟩
  exact srtI_of (srtI_sorted _) ((List.mergeSort_perm _ _).trans (hp.map _).symm)

theorem sum_bound {α : Type} (f g : α → Nat) (m : Nat) : ∀ l : List α, (∀ x ∈ l, f x ≤ g x + m) → (l.map f).sum ≤ (l.map g).sum + l.length * m
  | [], _ => by simp
  | x :: l, h => by
    have h1 := h x (.head _)
    have h2 := sum_bound f g m l fun y hy => h y (.tail _ hy)
    simp only [List.map_cons, List.sum_cons, List.length_cons, Nat.add_mul, Nat.one_mul]
    omega
theorem sum_le {α : Type} (f g : α → Nat) : ∀ l : List α, (∀ x ∈ l, f x ≤ g x) → (l.map f).sum ≤ (l.map g).sum
  | [], _ => by simp
  | x :: l, h => by
    have h1 := h x (.head _)
    have h2 := sum_le f g l fun y hy => h y (.tail _ hy)
    simp only [List.map_cons, List.sum_cons]
    omega
theorem flat_sum {α β : Type} (f : α → List β) : ∀ l : List α, (l.flatMap f).length = (l.map fun x => (f x).length).sum
  | [] => rfl
  | x :: l => by rw [List.flatMap_cons, List.length_append, flat_sum f l]; rfl

theorem bcn_cost (hR : R.length ≤ 100000) (h0 : 0 < R.length) (x1 x2 : Int) : (bcn R x1 x2).2 ≤ 4 * Lib.bitLen R.length + 1 ∧ (bcn R x1 x2).1.length ≤ 4 * Lib.bitLen R.length + 1 := by
  obtain ⟨w1, w2, w3⟩ := mkT_spec 0 R.length h0
  have hb := (bitLen_pos_bounds R.length (by omega) (by omega)).2.2
  have h2 := mkT_ht 0 R.length (Lib.bitLen R.length) (by omega)
  have h4 := FT.canon_cost (mkT 0 R.length) w1 0 (bfr R x1) (bto R x2)
  have h5 := FT.canon_few (a := bfr R x1) (b := bto R x2) (mkT 0 R.length) 0
  unfold bcn
  omega

theorem bandR_cost (hW : CscWF R gone YS) (hR : R.length ≤ 100000) (x1 x2 y1 y2 : Int) :
    ((bandR (costR R y1 y2) R YS x1 x2 y1 y2).1.length ≤ (bandR (costR R y1 y2) R YS x1 x2 y1 y2).2 ∧ (bandR (costR R y1 y2) R YS x1 x2 y1 y2).2 ≤ (bandR (costR R y1 y2) R YS x1 x2 y1 y2).1.length + 4 * (Lib.bitLen R.length * Lib.bitLen R.length) + 12 * Lib.bitLen R.length + 12) ∧
    (bandR (costC R y1 y2) R YS x1 x2 y1 y2).2 ≤ 8 * (Lib.bitLen R.length * Lib.bitLen R.length) + 12 * Lib.bitLen R.length + 12 := by
  have ly := hW.lenY
  have a1 := rkFirst_looks (xsR R) x1 (by simp [xsR]; omega)
  have a2 := rkAbove_looks (xsR R) x2 (by simp [xsR]; omega)
  rw [show (xsR R).length = R.length by simp [xsR]] at a1 a2
  unfold bandR
  by_cases h : x2 < x1 ∨ y2 < y1
  · rw [if_pos h, if_pos h]; simp
  · rw [if_neg h, if_neg h]
    by_cases h1 : bto R x2 ≤ bfr R x1
    · rw [if_pos h1, if_pos h1]
      simp only [List.length_nil]
      omega
    · rw [if_neg h1, if_neg h1]
      have h0 : 0 < R.length := by have := bto_len R x2; omega
      obtain ⟨c1, c2⟩ := bcn_cost hR h0 x1 x2
      have lk1 : ∀ k, (rkFirst ((lk (nds R.length) YS k).map (yvR R)) y1).2 ≤ Lib.bitLen R.length := fun k => by
        have h3 := lk_len (N := nds R.length) (YS := YS) k
        have h4 := rkFirst_looks ((lk (nds R.length) YS k).map (yvR R)) y1 (by rw [List.length_map]; omega)
        rw [List.length_map] at h4
        have h5 := bitLen_mono (show (lk (nds R.length) YS k).length ≤ R.length by omega) (by omega)
        omega
      have lk2 : ∀ k, (rkAbove ((lk (nds R.length) YS k).map (yvR R)) y2).2 ≤ Lib.bitLen R.length := fun k => by
        have h3 := lk_len (N := nds R.length) (YS := YS) k
        have h4 := rkAbove_looks ((lk (nds R.length) YS k).map (yvR R)) y2 (by rw [List.length_map]; omega)
        rw [List.length_map] at h4
        have h5 := bitLen_mono (show (lk (nds R.length) YS k).length ≤ R.length by omega) (by omega)
        omega
      have s1 := sum_bound (fun k => costR R y1 y2 (lk (nds R.length) YS k)) (fun k => (btw (yvR R) y1 y2 (lk (nds R.length) YS k)).length) (Lib.bitLen R.length + 1) (bcn R x1 x2).1 (fun k _ => by
        have := lk1 k
        unfold costR
        split <;> omega)
      have s2 := sum_le (fun k => (btw (yvR R) y1 y2 (lk (nds R.length) YS k)).length) (fun k => costR R y1 y2 (lk (nds R.length) YS k)) (bcn R x1 x2).1 (fun k _ => by unfold costR; omega)
      have s3 := sum_bound (fun k => costC R y1 y2 (lk (nds R.length) YS k)) (fun _ => 0) (2 * Lib.bitLen R.length) (bcn R x1 x2).1 (fun k _ => by
        have := lk1 k
        have := lk2 k
        unfold costC
        omega)
      have z : ((bcn R x1 x2).1.map fun _ => 0).sum = 0 := by
        generalize (bcn R x1 x2).1 = l
        induction l with
        | nil => rfl
        | cons a l ih => simpa using ih
      rw [z] at s3
      rw [← flat_sum (fun k => btw (yvR R) y1 y2 (lk (nds R.length) YS k))] at s1 s2
      have m1 : (bcn R x1 x2).1.length * (Lib.bitLen R.length + 1) ≤ (4 * Lib.bitLen R.length + 1) * (Lib.bitLen R.length + 1) := Nat.mul_le_mul_right _ c2
      have m2 : (bcn R x1 x2).1.length * (2 * Lib.bitLen R.length) ≤ (4 * Lib.bitLen R.length + 1) * (2 * Lib.bitLen R.length) := Nat.mul_le_mul_right _ c2
      have e1 : (4 * Lib.bitLen R.length + 1) * (Lib.bitLen R.length + 1) = 4 * (Lib.bitLen R.length * Lib.bitLen R.length) + 5 * Lib.bitLen R.length + 1 := by
        rw [Nat.add_mul, Nat.mul_add, Nat.mul_assoc]; omega
      have e2 : (4 * Lib.bitLen R.length + 1) * (2 * Lib.bitLen R.length) = 8 * (Lib.bitLen R.length * Lib.bitLen R.length) + 2 * Lib.bitLen R.length := by
        rw [Nat.add_mul, Nat.one_mul, show 4 * Lib.bitLen R.length * (2 * Lib.bitLen R.length) = 8 * (Lib.bitLen R.length * Lib.bitLen R.length) by rw [Nat.mul_assoc, Nat.mul_left_comm (Lib.bitLen R.length) 2, ← Nat.mul_assoc]]
      rw [e1] at m1
      rw [e2] at m2
      simp only
      generalize Lib.bitLen R.length * Lib.bitLen R.length = bb at *
      generalize ((bcn R x1 x2).1.flatMap fun k => btw (yvR R) y1 y2 (lk (nds R.length) YS k)).length = fl at *
      generalize ((bcn R x1 x2).1.map fun k => costR R y1 y2 (lk (nds R.length) YS k)).sum = sr at *
      generalize ((bcn R x1 x2).1.map fun k => costC R y1 y2 (lk (nds R.length) YS k)).sum = sc at *
      omega

/-! ### In how many lists -/
/-- the lengths of all lists -/
def wgt (N : List Nd) (YS : List Nat) : Nat := (N.map fun d => (lkd YS d).length).sum
theorem wgt_tree (YS : List Nat) : ∀ (t : FT) (s : Nat), t.wf → (nl YS t).length ≤ wgt (t.nodes s) YS ∧ wgt (t.nodes s) YS ≤ (nl YS t).length * (t.ht + 1)
  | .leaf a, s, _ => by
    have e : wgt ((FT.leaf a).nodes s) YS = (nl YS (.leaf a)).length := by
      unfold wgt
      show ((lkd YS ((FT.leaf a).top s)).length + 0) = _
      rw [lkd_top]; rfl
    rw [e]
    simp [FT.ht]
  | .node l r, s, hw => by
    have h1 := wgt_tree YS l s hw.1
    have h2 := wgt_tree YS r (s + l.size) hw.2.1
    have e : wgt ((FT.node l r).nodes s) YS = wgt (l.nodes s) YS + wgt (r.nodes (s + l.size)) YS + (nl YS (.node l r)).length := by
      unfold wgt
      show ((l.nodes s ++ r.nodes (s + l.size) ++ [(FT.node l r).top s]).map _).sum = _
      rw [List.map_append, List.map_append, List.sum_append, List.sum_append]
      show _ + ((lkd YS ((FT.node l r).top s)).length + 0) = _
      rw [lkd_top]; rfl
    have e2 : (nl YS l).length + (nl YS r).length = (nl YS (.node l r)).length := by
      rw [nl_left YS l r hw, nl_right YS l r hw]
      generalize nl YS (.node l r) = L
      induction L with
      | nil => rfl
      | cons i L ih => by_cases h : i < l.hi <;> simp [List.filter_cons, h] at ih ⊢ <;> omega
    rw [e]
    refine ⟨by omega, ?_⟩
    have m1 : (nl YS l).length * (l.ht + 1) ≤ (nl YS l).length * (max l.ht r.ht + 1) := Nat.mul_le_mul_left _ (by omega)
    have m2 : (nl YS r).length * (r.ht + 1) ≤ (nl YS r).length * (max l.ht r.ht + 1) := Nat.mul_le_mul_left _ (by omega)
    show _ ≤ _ * (max l.ht r.ht + 1 + 1)
    rw [← e2, Nat.mul_add _ (max l.ht r.ht + 1) 1, Nat.add_mul]
    omega
theorem wgt_all (hW : CscWF R gone YS) (hR : R.length ≤ 100000) : YS.length ≤ wgt (nds R.length) YS ∧ wgt (nds R.length) YS ≤ YS.length * (Lib.bitLen R.length + 1) := by
  by_cases h0 : R.length = 0
  · have : YS.length = 0 := by have := hW.lenY; omega
    unfold nds
    rw [if_pos h0, this]
    simp [wgt]
  · have h0' : 0 < R.length := by omega
    obtain ⟨w1, w2, w3⟩ := mkT_spec 0 R.length h0'
    have h := wgt_tree YS (mkT 0 R.length) 0 w1
    rw [hW.top h0'] at h
    have hb := (bitLen_pos_bounds R.length (by omega) (by omega)).2.2
    have h2 := mkT_ht 0 R.length (Lib.bitLen R.length) (by omega)
    unfold nds
    rw [if_neg h0]
    exact ⟨h.1, Nat.le_trans h.2 (Nat.mul_le_mul_left _ (by omega))⟩
end
end Go.Proofs.YtggfdlanobndjaaGreat
