/- A low of points: Build, Lowest, Len, Drop in words of the points that live. -/
import Derived.Test.YtggfdlanobndjaaGreatLwF
import Derived.Test.YtggfdlanobndjaaGreatLwT
namespace Go.Proofs.YtggfdlanobndjaaGreat
open Go.RowKit Go.Sort Go.Shelf Go.Lib Go.Maps
set_option linter.unusedSimpArgs false
set_option linter.unusedVariables false

/-- a low of points, as it lies: l the living ones; n0: how many were built -/
def LowAt (w : World) (lo hi tb n0 : Nat) (l : List Pt) : Prop :=
  ∃ fb R gone YS V, LptAt w lo hi tb fb R (bst (nds R.length) YS) l.length V ∧ CscWF R gone YS ∧ Lives R YS l ∧ R.length = n0 ∧ n0 ≤ 20000

/-- so many things a part's lowest one wants at most -/
def lMost (n : Nat) : Nat := 6 * Lib.bitLen n + 1
theorem canL_cost {R : List Pt} (hR : R.length ≤ 100000) (x1 x2 : Int) : (canL R x1 x2).2 ≤ lMost R.length := by
  unfold canL lMost
  by_cases hc : R.length = 0 ∨ x2 < x1
  · rw [if_pos hc]
    exact Nat.zero_le _
  · rw [if_neg hc]
    have h0 : 0 < R.length := by omega
    have hxl : (xsR R).length = R.length := by simp [xsR]
    have a1 := rkFirst_looks (xsR R) x1 (by omega)
    have a2 := rkAbove_looks (xsR R) x2 (by omega)
    rw [hxl] at a1 a2
    by_cases h1 : hfr R x1 < hto R x2
    · rw [if_pos h1]
      obtain ⟨w1, w2, w3⟩ := mkT_spec 0 R.length h0
      have hb := (bitLen_pos_bounds R.length (by omega) (by omega)).2.2
      have hh := mkT_ht 0 R.length (Lib.bitLen R.length) (by omega)
      have c1 := FT.canon_cost (mkT 0 R.length) w1 0 (hfr R x1) (hto R x2)
      simp only
      omega
    · rw [if_neg h1]
      simp only
      omega

section
variable {w w' : World} {lo hi tb n0 : Nat} {l : List Pt}
theorem LowAt.kept {S : Nat → Prop} (h : LowAt w lo hi tb n0 l) (K : KpS S w w') (hS : ∀ k, lo ≤ k → k < hi → ¬ S k) : LowAt w' lo hi tb n0 l := by
  obtain ⟨fb, R, gone, YS, V, h1, h2⟩ := h
  exact ⟨fb, R, gone, YS, V, h1.kept K hS, h2⟩
theorem LowAt.below {B : Nat} (h : LowAt w lo hi tb n0 l) (hb : Below B w w') (hB : hi ≤ B) : LowAt w' lo hi tb n0 l := by
  obtain ⟨fb, R, gone, YS, V, h1, h2⟩ := h
  exact ⟨fb, R, gone, YS, V, h1.below hb hB, h2⟩
theorem LowAt.hi_le (h : LowAt w lo hi tb n0 l) : hi ≤ w.heap.size := by
  obtain ⟨fb, R, gone, YS, V, h1, h2⟩ := h
  exact h1.tbr.2.2.2.2
theorem LowAt.few2 (h : LowAt w lo hi tb n0 l) : l.length ≤ n0 ∧ n0 ≤ 20000 := by
  obtain ⟨fb, R, gone, YS, V, h1, h2, h3, h4, h5⟩ := h
  have := h2.lenY
  have := h3.len h2
  omega
theorem low_words {R : List Pt} {gone : List Bool} {YS : List Nat} (hW : CscWF R gone YS) (hl : Lives R YS l) (x1 x2 : Int) : (lowF R (nds R.length) YS (canL R x1 x2).1).map (ptAt R) = (lws l x1 x2).head? := by
  have hnil : ∀ h : (lws l x1 x2) = [], (lowF R (nds R.length) YS []).map (ptAt R) = (lws l x1 x2).head? := fun h => by rw [h]; rfl
  unfold canL
  by_cases h0 : R.length = 0 ∨ x2 < x1
  · rw [if_pos h0]
    refine hnil ?_
    rcases h0 with h0 | h0
    · have h1 := hW.lenY
      have h2 := hl.len hW
      have h3 := lws_len l x1 x2
      exact List.eq_nil_of_length_eq_zero (by omega)
    · exact lws_none l h0
  · rw [if_neg h0]
    have hr := rng_pts hW hl x1 x2
    by_cases h1 : hfr R x1 < hto R x2
    · rw [if_pos h1]
      simp only
      rw [lowF_canon hW (by omega), ← hr, List.head?_map]
    · rw [if_neg h1]
      refine hnil ?_
      rw [← hr]
      have : rng YS (hfr R x1) (hto R x2) = [] := List.filter_eq_nil_iff.2 fun i _ => by simp; omega
      rw [this]; rfl

theorem lBuild (a : Option Addr) (c : Nat) (l : List Pt) (w : World) (hl : RdK ePt 3 w a l) (hn : l.length ≤ 20000) (hw : wfN l) (hu : unl l = true) :
    Calls Tryz.prog 32 #[.slice a l.length c] w fun e w' => ∃ tb, e = .returned (.tuple #[.pointer (some ⟨tb, 0, none⟩), .int .i64 0]) ∧ LowAt w' w.heap.size w'.heap.size tb l.length l ∧ Below w.heap.size w w' :=
  (low_build a c l w hl hn hw hu).mono fun e w' ⟨tb, fb, V, he, h1, h2⟩ => by
    have hu' : (ids l).Nodup := by unfold unl at hu; simpa using hu
    have hs := srtX_sorted hu'
    have hid : (ids (srtX l)).Nodup := ((srtX_perm l).map _).nodup_iff.2 hu'
    have hwf := ysOf_wf hs hid
    have hlen : (srtX l).length = l.length := (srtX_perm l).length_eq
    rw [show ((srtX l).length : Int) = (l.length : Int) by rw [hlen]] at h1
    refine ⟨tb, he, ⟨fb, _, _, _, V, h1, hwf, lives_first hu' _ (fun i => ?_), hlen, by omega⟩, h2⟩
    rw [hwf.live, List.getElem?_replicate]
    split <;> simp_all

theorem lLowest (h : LowAt w lo hi tb n0 l) (x1 x2 : Int) :
    Calls Tryz.prog 34 #[.pointer (some ⟨tb, 0, none⟩), .int .i64 x1, .int .i64 x2] w fun e w' => (∃ p : Pt, p = (lws l x1 x2).head?.getD (0, 0, 0) ∧ ∃ c : Nat, e = .returned (.tuple #[vPt p.1 p.2.1 p.2.2, .bool (lws l x1 x2).head?.isSome, .int .i64 c]) ∧ c ≤ lMost n0) ∧ Below w.heap.size w w' := by
  obtain ⟨fb, R, gone, YS, V, h1, h2, h3, h4, h5⟩ := h
  refine (low_lowest h1 h2 (by omega) x1 x2).mono ?_
  rintro e w' ⟨⟨p, hp, he⟩, hb⟩
  have hw := low_words h2 h3 x1 x2
  refine ⟨⟨p, by rw [hp, hw], (canL R x1 x2).2, ?_, by rw [← h4]; exact canL_cost (by omega) x1 x2⟩, hb⟩
  rw [← hw, Option.isSome_map]
  exact he

/-- what Lows tells -/
def LowsQ (w : World) (n0 : Nat) (l : List Pt) (x1 x2 K : Int) (e : Ending) (w' : World) : Prop :=
  (∃ (v : Value) (c : Nat) (L : List Pt), L = (lws l x1 x2).take K.toNat ∧ e = .returned (.tuple #[v, .int .i64 c]) ∧ w'.ownsRow w.heap.size 34 3 v L.length (L.flatMap ePt) ∧ L.length ≤ c ∧ c ≤ lMost n0 + L.length * (1 + Lib.bitLen n0)) ∧ Below w.heap.size w w'
theorem lLows (h : LowAt w lo hi tb n0 l) (x1 x2 K : Int) :
    Calls Tryz.prog 35 #[.pointer (some ⟨tb, 0, none⟩), .int .i64 x1, .int .i64 x2, .int .i64 K] w (LowsQ w n0 l x1 x2 K) := by
  obtain ⟨fb, R, gone, YS, V, h1, h2, h3, h4, h5⟩ := h
  refine (low_lows h1 h2 (by omega) x1 x2 K).mono ?_
  rintro e w' ⟨v, c, L, hL, he, hr, hc1, hc2, hb⟩
  refine ⟨⟨v, c, L, ?_, he, hr, hc1, Nat.le_trans hc2 ?_⟩, hb⟩
  · rw [hL, List.map_take, rngX_pts h2 h3]
  · have a1 := canL_cost (R := R) (by omega) x1 x2
    rw [← h4]
    by_cases h0 : R.length = 0
    · have a2 : L.length = 0 := by
        rw [hL, List.length_map, List.length_take]
        have := rngX_len h2 x1 x2
        omega
      rw [a2]
      omega
    · have hb := (bitLen_pos_bounds R.length (by omega) (by omega)).2.2
      have hh := mkT_ht 0 R.length (Lib.bitLen R.length) (by omega)
      have a3 := Nat.mul_le_mul (Nat.le_refl L.length) (show 1 + (mkT 0 R.length).ht ≤ 1 + Lib.bitLen R.length by omega)
      omega

theorem lLen (h : LowAt w lo hi tb n0 l) :
    Calls Tryz.prog 36 #[.pointer (some ⟨tb, 0, none⟩)] w fun e w' => e = .returned (.int .i64 l.length) ∧ w' = w := by
  obtain ⟨fb, R, gone, YS, V, h1, h2, h3, h4, h5⟩ := h
  exact low_len h1

theorem lDrop (h : LowAt w lo hi tb n0 l) (p : Pt) :
    Calls Tryz.prog 33 #[.pointer (some ⟨tb, 0, none⟩), vPt p.1 p.2.1 p.2.2] w fun e w' => e = .returned (.bool (decide (p ∈ l))) ∧ LowAt w' lo hi tb n0 (l.filter fun q => decide (q ≠ p)) ∧ KpS (fun k => lo ≤ k ∧ k < hi) w w' := by
  have hfw := h.few2
  obtain ⟨fb, R, gone, YS, V, h1, h2, h3, h4, h5⟩ := h
  have miss : p ∉ l → ∀ (e : Ending) (w' : World), e = .returned (.bool false) → Below w.heap.size w w' → e = .returned (.bool (decide (p ∈ l))) ∧ LowAt w' lo hi tb n0 (l.filter fun q => decide (q ≠ p)) ∧ KpS (fun k => lo ≤ k ∧ k < hi) w w' := fun hp e w' he hb => by
    have hf : (l.filter fun q => decide (q ≠ p)) = l := List.filter_eq_self.2 fun q hq => by
      simp only [decide_eq_true_eq]
      rintro rfl
      exact hp hq
    rw [hf]
    exact ⟨by simp [hp, he], ⟨fb, R, gone, YS, V, h1.below hb h1.tbr.2.2.2.2, h2, h3, h4, h5⟩, (KpS.refl _ w).below hb⟩
  by_cases hR : ∃ x, ∃ h : x < R.length, R[x] = p
  · obtain ⟨x, hx, e⟩ := hR
    refine (low_drop_at h1 h2 (by omega) (by omega) (by omega) hx p e).mono ?_
    rintro e' w' (⟨hn, he, hb⟩ | ⟨hy, he, hA, hk⟩)
    · refine miss (fun hp => ?_) e' w' he hb
      obtain ⟨i, hi, ei⟩ := (h3.mem p).1 hp
      have hil := h2.lt hi
      rw [ptAt_eq hil, ← e] at ei
      have : i = x := by
        rcases Nat.lt_trichotomy i x with hlt | heq | hlt
        · have := List.pairwise_iff_getElem.1 h2.rowX i x hil hx hlt
          rw [ei] at this
          unfold ltX at this
          omega
        · exact heq
        · have := List.pairwise_iff_getElem.1 h2.rowX x i hx hil hlt
          rw [ei] at this
          unfold ltX at this
          omega
      exact hn (this ▸ hi)
    · have hp : p ∈ l := (h3.mem p).2 ⟨x, hy, by rw [ptAt_eq hx]; exact e⟩
      have hg := (h2.live x).1 hy
      have hW' := h2.drop hg
      have h9 := h3.drop h2 hx hy
      rw [e] at h9
      have hln : ((l.filter fun q => decide (q ≠ p)).length : Int) = l.length - 1 := by
        have a1 := h3.len h2
        have a2 := h9.len hW'
        have a3 : (outX YS x).length + 1 = YS.length := by
          have := (List.perm_cons_erase hy).length_eq
          have e9 : outX YS x = YS.erase x := by unfold outX; rw [h2.nodup.erase_eq_filter]; congr 1; funext i; by_cases h : i = x <;> simp [h]
          rw [e9]; simpa using this.symm
        omega
      refine ⟨by simp [hp, he], ⟨fb, R, _, _, V, ?_, hW', h9, h4, h5⟩, hk⟩
      rw [hln]
      exact hA
  · refine (low_drop_miss h1 h2.rowX (by omega) p (fun x hx e => hR ⟨x, hx, e⟩)).mono ?_
    rintro e w' ⟨he, hb⟩
    refine miss (fun hp => ?_) e w' he hb
    obtain ⟨i, hi, ei⟩ := (h3.mem p).1 hp
    have hil := h2.lt hi
    exact hR ⟨i, hil, by rw [← ptAt_eq hil]; exact ei⟩
end
end Go.Proofs.YtggfdlanobndjaaGreat
