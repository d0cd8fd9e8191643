/- The plain law of low: each node's lowest place; the lowest ones of a part, one after the other. No function of the program is walked here. -/
import Derived.Test.YtggfdlanobndjaaGreatBnP
import Derived.Test.YtggfdlanobndjaaGreatHpQ
import Derived.Test.YtggfdlanobndjaaGreatHqP
namespace Go.Proofs.YtggfdlanobndjaaGreat
open Go Go.RowKit
set_option linter.unusedVariables false
set_option linter.unusedSimpArgs false

/-- of two places the lower one -/
def lowO (R : List Pt) : Option Nat → Option Nat → Option Nat
  | none, b => b
  | some i, none => some i
  | some i, some k => if ltB R k i then some k else some i
/-- the lowest of some places -/
def IsMin (R : List Pt) (S : Nat → Prop) : Option Nat → Prop
  | none => ∀ j, ¬ S j
  | some i => S i ∧ ∀ j, S j → j = i ∨ ltI R i j

section
variable {R : List Pt} {S T : Nat → Prop} {a b : Option Nat}
theorem ltI_irr (i : Nat) : ¬ ltI R i i := ltY_irr _
theorem ltI_trans {i j k : Nat} (h : ltI R i j) (h2 : ltI R j k) : ltI R i k := ltY_trans h h2
theorem IsMin.uniq (ha : IsMin R S a) (hb : IsMin R S b) : a = b := by
  cases a with
  | none =>
    cases b with
    | none => rfl
    | some k => exact absurd hb.1 (ha k)
  | some i =>
    cases b with
    | none => exact absurd ha.1 (hb i)
    | some k =>
      rcases ha.2 k hb.1 with h | h
      · rw [h]
      · rcases hb.2 i ha.1 with h2 | h2
        · rw [h2]
        · exact absurd (ltI_trans h h2) (ltI_irr _)
theorem IsMin.congr (h : ∀ j, S j ↔ T j) (ha : IsMin R S a) : IsMin R T a := by
  cases a with
  | none => exact fun j hj => ha j ((h j).2 hj)
  | some i => exact ⟨(h i).1 ha.1, fun j hj => ha.2 j ((h j).2 hj)⟩
theorem lowO_min {n : Nat} (O : Ord (ltI R) (ltB R) n) (hS : ∀ j, S j → j < n) (hT : ∀ j, T j → j < n) (ha : IsMin R S a) (hb : IsMin R T b) : IsMin R (fun j => S j ∨ T j) (lowO R a b) := by
  cases a with
  | none =>
    refine hb.congr fun j => ⟨.inr, fun h => h.resolve_left (ha j)⟩
  | some i =>
    cases b with
    | none => exact ha.congr (T := fun j => S j ∨ T j) fun j => ⟨.inl, fun h => h.resolve_right (hb j)⟩
    | some k =>
      show IsMin R _ (if ltB R k i then some k else some i)
      by_cases h : ltB R k i = true
      · rw [if_pos h]
        have hki := (O.dec k i).1 h
        refine ⟨.inr hb.1, fun j hj => ?_⟩
        rcases hj with hj | hj
        · rcases ha.2 j hj with h9 | h9
          · rw [h9]; exact .inr hki
          · exact .inr (ltI_trans hki h9)
        · exact hb.2 j hj
      · rw [if_neg h]
        have hik : k = i ∨ ltI R i k := by
          by_cases e : k = i
          · exact .inl e
          · rcases O.tot k i (hT k hb.1) (hS i ha.1) e with h9 | h9
            · exact absurd ((O.dec k i).2 h9) h
            · exact .inr h9
        refine ⟨.inl ha.1, fun j hj => ?_⟩
        rcases hj with hj | hj
        · exact ha.2 j hj
        · rcases hb.2 j hj with h9 | h9
          · rw [h9]; exact hik
          · rcases hik with h8 | h8
            · rw [← h8]; exact .inr h9
            · exact .inr (ltI_trans h8 h9)
theorem head_min {L : List Nat} (h : L.Pairwise (ltI R)) : IsMin R (fun j => j ∈ L) L.head? := by
  cases L with
  | nil => exact fun j hj => absurd hj List.not_mem_nil
  | cons i L =>
    refine ⟨List.mem_cons_self, fun j hj => ?_⟩
    rcases List.mem_cons.1 hj with h9 | h9
    · exact .inl h9
    · exact .inr ((List.pairwise_cons.1 h).1 j h9)
end

/-- a node's lowest place -/
def bst (N : List Nd) (YS : List Nat) (k : Nat) : Option Nat := (lk N YS k).head?
/-- the places from a, ahead of b, by Y -/
def rng (YS : List Nat) (a b : Nat) : List Nat := YS.filter fun i => decide (a ≤ i ∧ i < b)

section
variable {R : List Pt} {gone : List Bool} {YS : List Nat} {N : List Nd}
theorem CscWF.srt (hW : CscWF R gone YS) (k : Nat) : (lk N YS k).Pairwise (ltI R) := List.Pairwise.sublist (lk_sub k) hW.ysY
theorem bst_min (hW : CscWF R gone YS) (k : Nat) : IsMin R (fun j => j ∈ lk N YS k) (bst N YS k) := head_min (hW.srt k)
theorem lk_lt (hW : CscWF R gone YS) {k j : Nat} (h : j ∈ lk N YS k) : j < R.length := hW.lt ((lk_sub k).subset h)
theorem bst_lt (hW : CscWF R gone YS) {k i : Nat} (h : bst N YS k = some i) : i < R.length := by
  have := bst_min (N := N) hW k
  rw [h] at this
  exact lk_lt hW this.1
theorem bst_none {k : Nat} : bst N YS k = none ↔ lk N YS k = [] := by unfold bst; cases lk N YS k <;> simp
theorem nl_node (YS : List Nat) {l r : FT} (hw : (FT.node l r).wf) : (nl YS l ++ nl YS r).Perm (nl YS (.node l r)) := by
  rw [nl_left YS l r hw, nl_right YS l r hw]
  exact List.filter_append_perm _ _
theorem bst_node (hW : CscWF R gone YS) {l r : FT} {s : Nat} (ha : FT.At N (.node l r) s) (hw : (FT.node l r).wf) :
    bst N YS ((FT.node l r).root s) = lowO R (bst N YS (l.root s)) (bst N YS (r.root (s + l.size))) := by
  have h1 := lowO_min (ord_of hW.ids) (fun j h => lk_lt hW h) (fun j h => lk_lt hW h) (bst_min (N := N) hW (l.root s)) (bst_min (N := N) hW (r.root (s + l.size)))
  refine IsMin.uniq (bst_min hW _) (h1.congr fun j => ?_)
  rw [lk_at ha, lk_at ha.left, lk_at ha.right, ← (nl_node YS hw).mem_iff, List.mem_append]
theorem bst_leaf (hW : CscWF R gone YS) {a s : Nat} (ha : FT.At N (.leaf a) s) : bst N YS s = if a ∈ YS then some a else none := by
  have hm : ∀ j, j ∈ lk N YS s ↔ j = a ∧ a ∈ YS := fun j => by
    have : lk N YS s = nl YS (.leaf a) := lk_at ha
    rw [this]
    unfold nl
    rw [List.mem_filter, decide_eq_true_eq]
    simp only [FT.lo, FT.hi]
    constructor
    · rintro ⟨h1, h2⟩
      obtain rfl : j = a := by omega
      exact ⟨rfl, h1⟩
    · rintro ⟨rfl, h⟩; exact ⟨h, by omega⟩
  refine IsMin.uniq (bst_min hW s) ?_
  split
  · rename_i h
    exact ⟨(hm a).2 ⟨rfl, h⟩, fun j hj => .inl ((hm j).1 hj).1⟩
  · rename_i h
    exact fun j hj => h ((hm j).1 hj).2

/-! ### A part's nodes -/
theorem btw_all (L : List Nat) : btw (fun _ => 0) 0 0 L = L := by unfold btw; exact List.filter_eq_self.2 fun i _ => by simp
theorem canon_mem0 {a b : Nat} (i : Nat) (t : FT) (s : Nat) (ha : FT.At N t s) (hw : t.wf) : i ∈ (t.canon s a b).1.flatMap (lk N YS) ↔ i ∈ nl YS t ∧ a ≤ i ∧ i < b := by
  have h := canon_mem (yv := fun _ => 0) (y1 := 0) (y2 := 0) (YS := YS) (N := N) (a := a) (b := b) i t s ha hw
  simp only [btw_all] at h
  rw [h]
  simp
theorem canon_rng (hW : CscWF R gone YS) (h0 : 0 < R.length) (a b : Nat) : (((mkT 0 R.length).canon 0 a b).1.flatMap (lk (nds R.length) YS)).Perm (rng YS a b) := by
  obtain ⟨w1, w2, w3⟩ := mkT_spec 0 R.length h0
  have ha := nds_at R.length h0
  have h1 := canon_nodup (yv := fun _ => 0) (y1 := 0) (y2 := 0) (N := nds R.length) (a := a) (b := b) hW.nodup (mkT 0 R.length) 0 ha w1
  simp only [btw_all] at h1
  refine (List.perm_ext_iff_of_nodup h1 (hW.nodup.sublist List.filter_sublist)).2 fun i => ?_
  rw [canon_mem0 i _ 0 ha w1, hW.top h0, List.mem_filter, decide_eq_true_eq]
/-- one after the other, the lowest stays -/
def lowF (R : List Pt) (N : List Nd) (YS : List Nat) (ks : List Nat) : Option Nat := ks.foldl (fun o k => lowO R o (bst N YS k)) none
theorem lowF_snoc (ks : List Nat) (k : Nat) : lowF R N YS (ks ++ [k]) = lowO R (lowF R N YS ks) (bst N YS k) := by unfold lowF; rw [List.foldl_append]; rfl
theorem lowF_min (hW : CscWF R gone YS) (ks : List Nat) : ∀ (o : Option Nat) (S : Nat → Prop), (∀ j, S j → j < R.length) → IsMin R S o → IsMin R (fun j => S j ∨ j ∈ ks.flatMap (lk N YS)) (ks.foldl (fun o k => lowO R o (bst N YS k)) o) := by
  induction ks with
  | nil => intro o S hS h; exact h.congr fun j => by simp
  | cons k ks ih =>
    intro o S hS h
    have h1 := lowO_min (ord_of hW.ids) hS (fun j h => lk_lt hW h) h (bst_min (N := N) hW k)
    have h2 := ih _ _ (fun j hj => hj.elim (hS j) (lk_lt hW)) h1
    rw [List.foldl_cons]
    refine h2.congr fun j => ?_
    rw [List.flatMap_cons, List.mem_append, or_assoc]
theorem rng_srt (hW : CscWF R gone YS) (a b : Nat) : (rng YS a b).Pairwise (ltI R) := List.Pairwise.filter _ hW.ysY
theorem lowF_canon (hW : CscWF R gone YS) (h0 : 0 < R.length) (a b : Nat) : lowF R (nds R.length) YS ((mkT 0 R.length).canon 0 a b).1 = (rng YS a b).head? := by
  have h1 := lowF_min (N := nds R.length) hW ((mkT 0 R.length).canon 0 a b).1 none (fun _ => False) (fun _ h => h.elim) (fun _ h => h)
  refine IsMin.uniq (h1.congr fun j => ?_) (head_min (rng_srt hW a b))
  rw [(canon_rng hW h0 a b).mem_iff]
  simp

/-! ### The lowest ones, one after the other -/
def lbQ (R : List Pt) (N : List Nd) (YS : List Nat) (a b : Nat) : Bool := ltB R ((bst N YS a).getD 0) ((bst N YS b).getD 0)
theorem lbQ_order : LO (lbQ R N YS) :=
  ⟨fun a b h => by
    unfold lbQ ltB at *
    rw [decide_eq_true_eq] at h
    rw [decide_eq_false_iff_not]
    exact fun h2 => ltY_asymm h h2, fun a b c h h2 => by
    unfold lbQ ltB at *
    rw [decide_eq_false_iff_not] at *
    unfold ltY at *
    omega⟩
/-- what the queue's nodes hold is what is left -/
structure QI (N : List Nd) (YS q rem : List Nat) : Prop where
  per : (q.flatMap (lk N YS)).Perm rem
  non : ∀ k ∈ q, bst N YS k ≠ none
theorem QI.perm {q q' rem : List Nat} (h : QI N YS q rem) (hp : q'.Perm q) : QI N YS q' rem := ⟨(hp.flatMap_right _).trans h.per, fun k hk => h.non k (hp.mem_iff.1 hk)⟩
theorem QI.empty {rem : List Nat} (h : QI N YS [] rem) : rem = [] := h.per.symm.eq_nil
/-- the queue's first node holds the lowest one that is left -/
theorem QI.first (hW : CscWF R gone YS) {q rem : List Nat} {i k0 : Nat} (hs : (i :: rem).Pairwise (ltI R)) (hq : QI N YS q (i :: rem)) (hk : k0 ∈ q) (hl : ∀ k ∈ q, lbQ R N YS k k0 = false) : bst N YS k0 = some i := by
  have hi : i ∈ q.flatMap (lk N YS) := hq.per.mem_iff.2 (by simp)
  obtain ⟨k, hkq, hik⟩ := List.mem_flatMap.1 hi
  have hrem : ∀ j, j ∈ i :: rem → j = i ∨ ltI R i j := fun j hj => by
    rcases List.mem_cons.1 hj with h9 | h9
    · exact .inl h9
    · exact .inr ((List.pairwise_cons.1 hs).1 j h9)
  have inrem : ∀ k ∈ q, ∀ j, j ∈ lk N YS k → j ∈ i :: rem := fun k hk j hj => hq.per.mem_iff.1 (List.mem_flatMap.2 ⟨k, hk, hj⟩)
  have e1 : bst N YS k = some i := by
    have hm := bst_min (N := N) hW k
    cases e : bst N YS k with
    | none => exact absurd e (hq.non k hkq)
    | some j =>
      rw [e] at hm
      rcases hm.2 i hik with h9 | h9
      · rw [h9]
      · rcases hrem j (inrem k hkq j hm.1) with h8 | h8
        · rw [h8]
        · exact absurd (ltI_trans h9 h8) (ltI_irr _)
  cases e : bst N YS k0 with
  | none => exact absurd e (hq.non k0 hk)
  | some j =>
    have hm := bst_min (N := N) hW k0
    rw [e] at hm
    rcases hrem j (inrem k0 hk j hm.1) with h8 | h8
    · rw [h8]
    · have := hl k hkq
      unfold lbQ ltB at this
      rw [e1, e, decide_eq_false_iff_not] at this
      exact absurd h8 this

/-- beside the way to a leaf -/
def fars : FT → Nat → Nat → List Nat
  | .leaf _, _, _ => []
  | .node l r, s, x => if x < l.hi then r.root (s + l.size) :: fars l s x else l.root s :: fars r (s + l.size) x
theorem fars_len : ∀ (t : FT) (s x : Nat), (fars t s x).length ≤ t.ht
  | .leaf _, _, _ => Nat.le_refl _
  | .node l r, s, x => by
    have h1 := fars_len l s x
    have h2 := fars_len r (s + l.size) x
    simp only [fars, FT.ht]
    split <;> simp only [List.length_cons] <;> omega
theorem fars_perm (hn : YS.Nodup) : ∀ (t : FT) (s x : Nat), FT.At N t s → t.wf → x ∈ nl YS t → (x :: (fars t s x).flatMap (lk N YS)).Perm (nl YS t)
  | .leaf a, s, x, ha, hw, hx => by
    have hm : ∀ j, j ∈ nl YS (.leaf a) → j = a := fun j hj => by
      have h9 := (List.mem_filter.1 hj).2
      rw [decide_eq_true_eq] at h9
      simp only [FT.lo, FT.hi] at h9
      omega
    simp only [fars, List.flatMap_nil]
    refine (List.perm_ext_iff_of_nodup (by simp) (hn.sublist List.filter_sublist)).2 fun j => ?_
    rw [List.mem_singleton]
    exact ⟨fun h => h ▸ hx, fun h => by rw [hm j h, hm x hx]⟩
  | .node l r, s, x, ha, hw, hx => by
    have hp := nl_node YS hw
    have hsp : ∀ (t : FT) j, j ∈ nl YS t → t.lo ≤ j ∧ j < t.hi := fun t j hj => by simpa using (List.mem_filter.1 hj).2
    have hx' := hp.mem_iff.2 hx
    rw [List.mem_append] at hx'
    have q3 := hw.2.2
    simp only [fars]
    split
    · rename_i hlt
      have hxl : x ∈ nl YS l := hx'.resolve_right fun h => by have := hsp r x h; omega
      have ih := fars_perm hn l s x ha.left hw.1 hxl
      rw [List.flatMap_cons, lk_at ha.right]
      refine List.Perm.trans ?_ hp
      exact ((List.perm_middle.symm).trans (ih.append_left _)).trans List.perm_append_comm
    · rename_i hlt
      have hxr : x ∈ nl YS r := hx'.resolve_left fun h => by have := hsp l x h; omega
      have ih := fars_perm hn r (s + l.size) x ha.right hw.2.1 hxr
      rw [List.flatMap_cons, lk_at ha.left]
      refine List.Perm.trans ?_ hp
      exact (List.perm_middle.symm).trans (ih.append_left _)

/-- the nodes that hold any -/
def some_ (N : List Nd) (YS : List Nat) (ks : List Nat) : List Nat := ks.filter fun k => (bst N YS k).isSome
theorem some_flat (ks : List Nat) : (some_ N YS ks).flatMap (lk N YS) = ks.flatMap (lk N YS) := by
  induction ks with
  | nil => rfl
  | cons k ks ih =>
    unfold some_ at *
    rw [List.filter_cons]
    cases e : bst N YS k with
    | none => simp [bst_none.1 e, ih]
    | some i => simp [ih]
end

/-! ### In words of the living points -/
def inX (x1 x2 : Int) (p : Pt) : Bool := decide (x1 ≤ p.1 ∧ p.1 ≤ x2)
/-- the points of a part by Y -/
def lws (l : List Pt) (x1 x2 : Int) : List Pt := srtY (l.filter (inX x1 x2))
theorem lws_len (l : List Pt) (x1 x2 : Int) : (lws l x1 x2).length ≤ l.length := by
  unfold lws
  rw [(srtY_perm _).length_eq]
  exact List.length_filter_le _ _
section
variable {R : List Pt} {gone : List Bool} {YS : List Nat} {l : List Pt}
theorem rng_pts (hW : CscWF R gone YS) (hl : Lives R YS l) (x1 x2 : Int) : (rng YS (hfr R x1) (hto R x2)).map (ptAt R) = lws l x1 x2 := by
  have hin : ∀ i, i ∈ YS → (hfr R x1 ≤ i ∧ i < hto R x2 ↔ inX x1 x2 (ptAt R i) = true) := fun i hi => by
    have hil := hW.lt hi
    have hxl : i < (xsR R).length := by unfold xsR; simpa using hil
    have hxi : (xsR R)[i] = (ptAt R i).1 := by rw [ptAt_eq hil]; simp [xsR]
    have h1 := rkFirst_iff hW.xsS x1 hxl
    have h2 := rkAbove_iff hW.xsS x2 hxl
    rw [hxi] at h1 h2
    unfold hfr hto inX
    rw [decide_eq_true_eq, h1, h2]
  have hu : (ids (l.filter (inX x1 x2))).Nodup := hl.nod.sublist (List.filter_sublist.map _)
  refine srtY_eq hu (List.pairwise_map.2 (rng_srt hW _ _)) fun p => ?_
  rw [List.mem_map, List.mem_filter, hl.mem]
  constructor
  · rintro ⟨i, hi, rfl⟩
    unfold rng at hi
    rw [List.mem_filter, decide_eq_true_eq] at hi
    exact ⟨⟨i, hi.1, rfl⟩, (hin i hi.1).1 hi.2⟩
  · rintro ⟨⟨i, hi, rfl⟩, h2⟩
    refine ⟨i, ?_, rfl⟩
    unfold rng
    rw [List.mem_filter, decide_eq_true_eq]
    exact ⟨hi, (hin i hi).2 h2⟩
theorem lws_none (l : List Pt) {x1 x2 : Int} (h : x2 < x1) : lws l x1 x2 = [] := by
  unfold lws
  rw [List.filter_eq_nil_iff.2 (fun p _ => by unfold inX; simp only [decide_eq_true_eq]; omega)]
  exact List.eq_nil_of_length_eq_zero (srtY_perm []).length_eq
end
end Go.Proofs.YtggfdlanobndjaaGreat
