/- A heap's state in words of its living points. No function of the program is walked here. -/
import Derived.Test.YtggfdlanobndjaaGreatHpP
import Derived.Test.YtggfdlanobndjaaGreatQ5
namespace Go.Proofs.YtggfdlanobndjaaGreat
open Go Go.RowKit
set_option linter.unusedVariables false
set_option linter.unusedSimpArgs false

/-- places by Y -/
def ltI (R : List Pt) (i j : Nat) : Prop := ltY (ptAt R i) (ptAt R j)
def ltB (R : List Pt) (i j : Nat) : Bool := decide (ltY (ptAt R i) (ptAt R j))
theorem nmR_ne {R : List Pt} (hu : (ids R).Nodup) {i k : Nat} (hi : i < R.length) (hk : k < R.length) (hne : i ≠ k) : nmR R i ≠ nmR R k := by
  unfold nmR
  rw [ptAt_eq hi, ptAt_eq hk]
  have hid := List.pairwise_map.1 hu
  rcases Nat.lt_trichotomy i k with h | h | h
  · exact List.pairwise_iff_getElem.1 hid i k hi hk h
  · exact absurd h hne
  · exact fun e => List.pairwise_iff_getElem.1 hid k i hk hi h e.symm
theorem ord_of {R : List Pt} (hu : (ids R).Nodup) : Ord (ltI R) (ltB R) R.length :=
  ⟨fun i j k h h2 => ltY_trans h h2, fun i j hi hj hij => by
    have := nmR_ne hu hi hj hij
    unfold nmR at this
    unfold ltI ltY
    omega, fun i j => by unfold ltB ltI; simp⟩

/-- the places that are held -/
def hld (R : List Pt) (h : Hld) : List Nat := if R.length = 0 then [] else held h (mkT 0 R.length) 0
theorem hld_pos {R : List Pt} {h : Hld} (h0 : 0 < R.length) : hld R h = held h (mkT 0 R.length) 0 := by unfold hld; rw [if_neg (by omega)]

/-- a heap over a row -/
structure HpWF (R : List Pt) (h : Hld) : Prop where
  rowX : R.Pairwise ltX
  ids : (ids R).Nodup
  ok : 0 < R.length → HpOK (ltI R) h (mkT 0 R.length) 0
  nod : (hld R h).Nodup

section
variable {R : List Pt} {h : Hld} {l : List Pt}
theorem HpWF.lt (H : HpWF R h) {i : Nat} (hi : i ∈ hld R h) : i < R.length := by
  by_cases h0 : R.length = 0
  · unfold hld at hi; rw [if_pos h0] at hi; exact absurd hi List.not_mem_nil
  · obtain ⟨w1, w2, w3⟩ := mkT_spec 0 R.length (by omega)
    rw [hld_pos (by omega)] at hi
    have := (H.ok (by omega)).span w1 i hi
    omega
theorem HpWF.xsS (H : HpWF R h) : (xsR R).Pairwise (· ≤ ·) := List.pairwise_map.2 (H.rowX.imp fun h => by unfold ltX at h; omega)

/-- the heap as it is built -/
def fstH (R : List Pt) : Hld := fillH (mkT 0 R.length) 0 (ysOf R) fun _ => none
theorem fstH_wf (hx : R.Pairwise ltX) (hu : (ids R).Nodup) : HpWF R (fstH R) ∧ (hld R (fstH R)).Perm (ysOf R) := by
  have hW := ysOf_wf hx hu
  have key : 0 < R.length → HpOK (ltI R) (fstH R) (mkT 0 R.length) 0 ∧ (held (fstH R) (mkT 0 R.length) 0).Perm (ysOf R) := fun h0 => by
    obtain ⟨w1, w2, w3⟩ := mkT_spec 0 R.length h0
    exact fillH_spec (lt := ltI R) _ 0 (ysOf R) _ w1 hW.ysY hW.nodup (fun i hi => by have := hW.lt hi; omega) (fun _ _ _ => rfl)
  have hp : (hld R (fstH R)).Perm (ysOf R) := by
    by_cases h0 : R.length = 0
    · have : ysOf R = [] := List.eq_nil_of_length_eq_zero (by rw [ysOf_len]; exact h0)
      unfold hld
      rw [if_pos h0, this]
    · rw [hld_pos (by omega)]; exact (key (by omega)).2
  exact ⟨⟨hx, hu, fun h0 => (key h0).1, hp.nodup_iff.2 hW.nodup⟩, hp⟩
theorem first_pts (hx : R.Pairwise ltX) (hu : (ids R).Nodup) : ((hld R (fstH R)).map (ptAt R)).Perm R := by
  have hW := ysOf_wf hx hu
  have e : (ysOf R).map (ptAt R) = srtY R := by
    unfold ysOf
    rw [List.map_map]
    conv => rhs; rw [← List.map_id (srtY R)]
    exact List.map_congr_left fun p hp => idx_pt ((srtY_mem R p).1 hp)
  exact (((fstH_wf hx hu).2.map (ptAt R)).trans (by rw [e])).trans (srtY_perm R)

/-- one place is taken out -/
def outH (R : List Pt) (x : Nat) (h : Hld) : Hld := dropH (ltB R) (mkT 0 R.length) 0 x h
theorem HpWF.drop (H : HpWF R h) {x : Nat} (hx : x ∈ hld R h) : HpWF R (outH R x h) ∧ (x :: hld R (outH R x h)).Perm (hld R h) := by
  have hl := H.lt hx
  have h0 : 0 < R.length := by omega
  obtain ⟨w1, w2, w3⟩ := mkT_spec 0 R.length h0
  have hx' := hx
  have hn := H.nod
  rw [hld_pos h0] at hx' hn
  obtain ⟨a1, a2⟩ := dropH_spec (ord_of H.ids) (mkT 0 R.length) 0 h x w1 (by omega) (H.ok h0) hx' hn
  have hp : (x :: hld R (outH R x h)).Perm (hld R h) := by rw [hld_pos h0, hld_pos h0]; exact a2
  exact ⟨⟨H.rowX, H.ids, fun _ => a1, (List.nodup_cons.1 (hp.nodup_iff.2 H.nod)).2⟩, hp⟩

/-- the points that live -/
abbrev Livs (R : List Pt) (h : Hld) (l : List Pt) : Prop := ((hld R h).map (ptAt R)).Perm l
theorem Livs.ids (H : HpWF R h) (hl : Livs R h l) : (Go.Proofs.YtggfdlanobndjaaGreat.ids l).Nodup := by
  have h1 : (((hld R h).map (ptAt R)).map fun p => p.2.2).Nodup := by
    rw [List.map_map]
    refine List.pairwise_map.2 (List.Pairwise.imp_of_mem (fun {i k} hi hk hne => ?_) H.nod)
    exact nmR_ne H.ids (H.lt hi) (H.lt hk) hne
  exact (hl.map _).nodup_iff.1 h1
theorem Livs.mem (hl : Livs R h l) (p : Pt) : p ∈ l ↔ ∃ i ∈ hld R h, ptAt R i = p := by rw [← hl.mem_iff, List.mem_map]
theorem Livs.len (hl : Livs R h l) : (hld R h).length = l.length := by have := hl.length_eq; simpa using this
theorem HpWF.few (H : HpWF R h) : (hld R h).length ≤ R.length := nodup_ltR H.nod fun k hk => H.lt hk
theorem Livs.drop (H : HpWF R h) (hl : Livs R h l) {x : Nat} (hx : x ∈ hld R h) : Livs R (outH R x h) (l.filter fun q => decide (q ≠ ptAt R x)) := by
  obtain ⟨h1, h2⟩ := H.drop hx
  have p1 : (ptAt R x :: (hld R (outH R x h)).map (ptAt R)).Perm l := (h2.map (ptAt R)).trans hl
  have hnl : l.Nodup := nodup_of_strict (R := fun p q : Pt => p.2.2 ≠ q.2.2) (fun p h => h rfl) (List.pairwise_map.1 (Livs.ids H hl))
  have hn := p1.nodup_iff.2 hnl
  have p2 := p1.filter fun q => decide (q ≠ ptAt R x)
  rw [List.filter_cons_of_neg (by simp), List.filter_eq_self.2 (fun q hq => by
    simp only [decide_eq_true_eq]
    rintro rfl
    exact (List.nodup_cons.1 hn).1 hq)] at p2
  exact p2

/-! ### What three sides have -/
def in3 (x1 x2 y : Int) (p : Pt) : Bool := decide (x1 ≤ p.1 ∧ p.1 ≤ x2 ∧ p.2.1 ≤ y)
/-- the names of what three sides have, rising -/
def has3 (l : List Pt) (x1 x2 y : Int) : List Int := srtI (ids (l.filter (in3 x1 x2 y)))
theorem has3_len (x1 x2 y : Int) : (has3 l x1 x2 y).length = (l.filter (in3 x1 x2 y)).length := by unfold has3; rw [srtI_len]; simp [Go.Proofs.YtggfdlanobndjaaGreat.ids]

def hfr (R : List Pt) (x1 : Int) : Nat := (rkFirst (xsR R) x1).1
def hto (R : List Pt) (x2 : Int) : Nat := (rkAbove (xsR R) x2).1
/-- what is told of three sides, and what is touched; more: what the closure says -/
def askH (more : Bool) (R : List Pt) (h : Hld) (x1 x2 y : Int) : List Nat × Nat :=
  if R.length = 0 ∨ x2 < x1 then ([], 0) else
  if hfr R x1 < hto R x2 then ((downG more h (yvR R) y (hfr R x1) (hto R x2) (mkT 0 R.length) 0).1, (rkFirst (xsR R) x1).2 + (rkAbove (xsR R) x2).2 + (downG more h (yvR R) y (hfr R x1) (hto R x2) (mkT 0 R.length) 0).2.1)
  else ([], (rkFirst (xsR R) x1).2 + (rkAbove (xsR R) x2).2)
theorem hto_len (R : List Pt) (x2 : Int) : hto R x2 ≤ R.length := by
  have := (bsrch_lk (fun i => decide (x2 < (xsR R).getD i 0)) (xsR R).length).2
  have e : (xsR R).length = R.length := by simp [xsR]
  unfold hto rkAbove
  omega
theorem hfr_len (R : List Pt) (x1 : Int) : hfr R x1 ≤ R.length := by
  have := (bsrch_lk (fun i => decide (x1 ≤ (xsR R).getD i 0)) (xsR R).length).2
  have e : (xsR R).length = R.length := by simp [xsR]
  unfold hfr rkFirst
  omega
theorem in_span (H : HpWF R h) (x1 x2 y : Int) {i : Nat} (hi : i < R.length) : inH (yvR R) y (hfr R x1) (hto R x2) i = in3 x1 x2 y (ptAt R i) := by
  have hxl : i < (xsR R).length := by unfold xsR; simpa using hi
  have hxi : (xsR R)[i] = (ptAt R i).1 := by rw [ptAt_eq hi]; simp [xsR]
  have h1 := rkFirst_iff H.xsS x1 hxl
  have h2 := rkAbove_iff H.xsS x2 hxl
  rw [hxi] at h1 h2
  unfold inH in3 hfr hto yvR
  rw [Bool.eq_iff_iff, decide_eq_true_eq, decide_eq_true_eq, h1, h2]
theorem ltI_le (i j : Nat) : ltI R i j → yvR R i ≤ yvR R j := fun h => by unfold ltI ltY at h; unfold yvR; omega

/-- what three sides have, by place -/
def plc3 (R : List Pt) (h : Hld) (x1 x2 y : Int) : List Nat := (hld R h).filter fun i => in3 x1 x2 y (ptAt R i)
theorem askH_is (H : HpWF R h) (more : Bool) (x1 x2 y : Int) : (askH more R h x1 x2 y).1 = if more then plc3 R h x1 x2 y else (plc3 R h x1 x2 y).take 1 := by
  have hno : (∀ i ∈ hld R h, in3 x1 x2 y (ptAt R i) = false) → ([] : List Nat) = if more then plc3 R h x1 x2 y else (plc3 R h x1 x2 y).take 1 := fun hh => by
    have : plc3 R h x1 x2 y = [] := List.filter_eq_nil_iff.2 fun i hi => by rw [hh i hi]; decide
    rw [this]; cases more <;> rfl
  unfold askH
  split
  · rename_i hc
    refine hno fun i hi => ?_
    have hl := H.lt hi
    unfold in3
    simp only [decide_eq_false_iff_not]
    omega
  · rename_i hc
    split
    · have h0 : 0 < R.length := by omega
      obtain ⟨w1, w2, w3⟩ := mkT_spec 0 R.length h0
      have e : plc3 R h x1 x2 y = (held h (mkT 0 R.length) 0).filter (inH (yvR R) y (hfr R x1) (hto R x2)) := by
        unfold plc3
        rw [hld_pos h0]
        refine List.filter_congr fun i hi => ?_
        rw [in_span H x1 x2 y (H.lt (by rw [hld_pos h0]; exact hi))]
      cases more with
      | true => rw [e]; exact (downG_more ltI_le _ 0 w1 (H.ok h0)).1
      | false => rw [e]; exact (downG_one ltI_le _ 0 w1 (H.ok h0)).1
    · rename_i hft
      refine hno fun i hi => ?_
      rw [← in_span H x1 x2 y (H.lt hi)]
      unfold inH
      simp only [decide_eq_false_iff_not]
      omega
theorem plc3_pts (hl : Livs R h l) (x1 x2 y : Int) : ((plc3 R h x1 x2 y).map (ptAt R)).Perm (l.filter (in3 x1 x2 y)) := by
  have := hl.filter (in3 x1 x2 y)
  rw [List.filter_map] at this
  exact this
theorem plc3_names (hl : Livs R h l) (x1 x2 y : Int) : srtI ((plc3 R h x1 x2 y).map (nmR R)) = has3 l x1 x2 y ∧ (plc3 R h x1 x2 y).length = (has3 l x1 x2 y).length := by
  have h1 := plc3_pts hl x1 x2 y
  have h2 : ((plc3 R h x1 x2 y).map (nmR R)).Perm (Go.Proofs.YtggfdlanobndjaaGreat.ids (l.filter (in3 x1 x2 y))) := by
    have := h1.map fun p => p.2.2
    rw [List.map_map] at this
    exact this
  refine ⟨?_, ?_⟩
  · unfold has3
    exact srtI_of (srtI_sorted _) ((List.mergeSort_perm _ _).trans h2.symm)
  · rw [has3_len]; have := h1.length_eq; simpa using this

theorem askH_cost (H : HpWF R h) (hR : R.length ≤ 100000) (more : Bool) (x1 x2 y : Int) :
    (askH more R h x1 x2 y).1.length ≤ (askH more R h x1 x2 y).2 ∧ (askH more R h x1 x2 y).2 ≤ (if more then 2 else 0) * (askH more R h x1 x2 y).1.length + 6 * Lib.bitLen R.length + 1 := by
  unfold askH
  split
  · simp
  · rename_i hc
    have h0 : 0 < R.length := by omega
    have hxl : (xsR R).length = R.length := by simp [xsR]
    have a1 := rkFirst_looks (xsR R) x1 (by omega)
    have a2 := rkAbove_looks (xsR R) x2 (by omega)
    rw [hxl] at a1 a2
    split
    · obtain ⟨w1, w2, w3⟩ := mkT_spec 0 R.length h0
      have hb := (bitLen_pos_bounds R.length (by omega) (by omega)).2.2
      have hh := mkT_ht 0 R.length (Lib.bitLen R.length) (by omega)
      have c1 := downG_cost (more := more) (yv := yvR R) (y := y) (fr := hfr R x1) (ub := hto R x2) rfl (mkT 0 R.length) 0 w1 (H.ok h0)
      have c2 := downG_told (h := h) (yv := yvR R) (y := y) (fr := hfr R x1) (ub := hto R x2) more (mkT 0 R.length) 0
      simp only
      omega
    · simp only [List.length_nil]
      omega
theorem askH_few (H : HpWF R h) (hR : R.length ≤ 20000) (more : Bool) (x1 x2 y : Int) : (askH more R h x1 x2 y).1.length ≤ R.length ∧ (askH more R h x1 x2 y).2 ≤ 100000 := by
  have h1 := (askH_cost H (by omega) more x1 x2 y).2
  have hb : Lib.bitLen R.length ≤ 15 := Nat.le_trans (bitLen_mono hR (by omega)) (by decide)
  have h2 : (askH more R h x1 x2 y).1.length ≤ R.length := by
    rw [askH_is H]
    have h3 : (plc3 R h x1 x2 y).length ≤ R.length := Nat.le_trans (List.length_filter_le _ _) H.few
    cases more with
    | true => exact h3
    | false => simp only [Bool.false_eq_true, if_false, List.length_take]; omega
  refine ⟨h2, ?_⟩
  cases more <;> simp at h1 <;> omega
end
end Go.Proofs.YtggfdlanobndjaaGreat
