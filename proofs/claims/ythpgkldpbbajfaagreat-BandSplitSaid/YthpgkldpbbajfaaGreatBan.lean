/- A band of points: Build, Report, Count, Len, Weight, Drop in words of the points that live. -/
import Derived.Test.YthpgkldpbbajfaaGreatBnC
import Derived.Test.YthpgkldpbbajfaaGreatBnB
import Derived.Test.YthpgkldpbbajfaaGreatBnD
import Derived.Test.YthpgkldpbbajfaaGreatQ7
namespace Go.Proofs.YthpgkldpbbajfaaGreat
open Go.RowKit Go.Sort Go.Shelf Go.Lib Go.Maps
set_option linter.unusedSimpArgs false
set_option linter.unusedVariables false

/-- a band of points, as it lies: l the living ones; n0: how many were built -/
def BanAt (w : World) (lo hi tb n0 : Nat) (l : List Pt) : Prop :=
  ∃ fb R gone YS V, BndAt w lo hi tb fb R gone YS.length (lk (nds R.length) YS) V ∧ CscWF R gone YS ∧ Lives R YS l ∧ R.length = n0 ∧ n0 ≤ 20000
/-- what a box may cost beside what it tells -/
def bMost (n : Nat) : Nat := 4 * (Lib.bitLen n * Lib.bitLen n) + 12 * Lib.bitLen n + 12
def bMostC (n : Nat) : Nat := 8 * (Lib.bitLen n * Lib.bitLen n) + 12 * Lib.bitLen n + 12
theorem bMost_few {n : Nat} (h : n ≤ 20000) : bMost n ≤ 4000 ∧ bMostC n ≤ 4000 := by
  have h1 : Lib.bitLen n ≤ 15 := Nat.le_trans (bitLen_mono h (by omega)) (by decide)
  have h2 : Lib.bitLen n * Lib.bitLen n ≤ 15 * 15 := Nat.mul_le_mul h1 h1
  unfold bMost bMostC
  omega

section
variable {w w' : World} {lo hi tb n0 : Nat} {l : List Pt}
theorem BanAt.kept {S : Nat → Prop} (h : BanAt w lo hi tb n0 l) (K : KpS S w w') (hS : ∀ k, lo ≤ k → k < hi → ¬ S k) : BanAt w' lo hi tb n0 l := by
  obtain ⟨fb, R, gone, YS, V, h1, h2⟩ := h
  exact ⟨fb, R, gone, YS, V, h1.kept K hS, h2⟩
theorem BanAt.below {B : Nat} (h : BanAt w lo hi tb n0 l) (hb : Below B w w') (hB : hi ≤ B) : BanAt w' lo hi tb n0 l := by
  obtain ⟨fb, R, gone, YS, V, h1, h2⟩ := h
  exact ⟨fb, R, gone, YS, V, h1.below hb hB, h2⟩
theorem BanAt.hi_le (h : BanAt w lo hi tb n0 l) : hi ≤ w.heap.size := by
  obtain ⟨fb, R, gone, YS, V, h1, h2⟩ := h
  exact h1.tbr.2.2.2.2
theorem BanAt.lo_le (h : BanAt w lo hi tb n0 l) : lo ≤ hi := by
  obtain ⟨fb, R, gone, YS, V, h1, h2⟩ := h
  have := h1.tbr
  omega
theorem BanAt.few2 (h : BanAt w lo hi tb n0 l) : l.length ≤ n0 ∧ n0 ≤ 20000 := by
  obtain ⟨fb, R, gone, YS, V, h1, h2, h3, h4, h5⟩ := h
  have := h2.lenY
  have := h3.len h2
  omega

theorem bBuild (a : Option Addr) (c : Nat) (l : List Pt) (w : World) (hl : RdK ePt 3 w a l) (hn : l.length ≤ 20000) (hw : wfN l) (hu : unl l = true) :
    Calls Tryz.prog 25 #[.slice a l.length c] w fun e w' => ∃ tb, e = .returned (.tuple #[.pointer (some ⟨tb, 0, none⟩), .int .i64 0]) ∧ BanAt w' w.heap.size w'.heap.size tb l.length l ∧ Below w.heap.size w w' :=
  (band_build a c l w hl hn hw hu).mono fun e w' ⟨tb, fb, V, he, h1, h2⟩ => by
    have hu' : (ids l).Nodup := by unfold unl at hu; simpa using hu
    have hs := srtX_sorted hu'
    have hid : (ids (srtX l)).Nodup := ((srtX_perm l).map _).nodup_iff.2 hu'
    have hwf := ysOf_wf hs hid
    have hlen : (srtX l).length = l.length := (srtX_perm l).length_eq
    refine ⟨tb, he, ⟨fb, _, _, _, V, h1, hwf, lives_first hu' _ (fun i => ?_), hlen, by omega⟩, h2⟩
    rw [hwf.live, List.getElem?_replicate]
    split <;> simp_all

theorem bReport (h : BanAt w lo hi tb n0 l) (x1 x2 y1 y2 bi : Int) :
    Calls Tryz.prog 28 #[.pointer (some ⟨tb, 0, none⟩), .agg #[.int .i64 x1, .int .i64 x2, .int .i64 y1, .int .i64 y2, .int .u32 bi]] w fun e w' => ∃ v, ∃ c : Nat, e = .returned (.tuple #[v, .int .i64 (c : Nat)]) ∧ ((hasB l x1 x2 y1 y2).length ≤ c ∧ c ≤ (hasB l x1 x2 y1 y2).length + bMost n0) ∧ w'.ownsRow w.heap.size 32 1 v (hasB l x1 x2 y1 y2).length ((hasB l x1 x2 y1 y2).map (Value.int .u32)) ∧ Below w.heap.size w w' := by
  obtain ⟨fb, R, gone, YS, V, h1, h2, h3, h4, h5⟩ := h
  refine (band_report h1 h2 (by omega) x1 x2 y1 y2 bi).mono ?_
  rintro e w' ⟨v, he, hr, hb⟩
  obtain ⟨e1, e2⟩ := bandR_names (costR R y1 y2) h2 h3 x1 x2 y1 y2
  have e3 : (bandR (costR R y1 y2) R YS x1 x2 y1 y2).1.length = (hasB l x1 x2 y1 y2).length := by rw [e2, hasB_len]
  have hc := (bandR_cost h2 (by omega) x1 x2 y1 y2).1
  rw [e3, h4] at hc
  rw [e1, e3] at hr
  refine ⟨v, _, he, ⟨hc.1, ?_⟩, hr, hb⟩
  unfold bMost
  omega

theorem bCount (h : BanAt w lo hi tb n0 l) (x1 x2 y1 y2 bi : Int) :
    Calls Tryz.prog 30 #[.pointer (some ⟨tb, 0, none⟩), .agg #[.int .i64 x1, .int .i64 x2, .int .i64 y1, .int .i64 y2, .int .u32 bi]] w fun e w' => (∃ c : Nat, e = .returned (.tuple #[.int .i64 ((l.filter (inB x1 x2 y1 y2)).length : Nat), .int .i64 c]) ∧ c ≤ bMostC n0) ∧ Below w.heap.size w w' := by
  obtain ⟨fb, R, gone, YS, V, h1, h2, h3, h4, h5⟩ := h
  refine (band_count h1 h2 (by omega) x1 x2 y1 y2 bi).mono ?_
  rintro e w' ⟨he, hb⟩
  obtain ⟨e1, e2⟩ := bandR_names (costC R y1 y2) h2 h3 x1 x2 y1 y2
  rw [e2] at he
  have hc := (bandR_cost h2 (by omega) x1 x2 y1 y2).2
  rw [h4] at hc
  exact ⟨⟨_, he, hc⟩, hb⟩

theorem bLen (h : BanAt w lo hi tb n0 l) :
    Calls Tryz.prog 33 #[.pointer (some ⟨tb, 0, none⟩)] w fun e w' => e = .returned (.int .i64 l.length) ∧ w' = w := by
  obtain ⟨fb, R, gone, YS, V, h1, h2, h3, h4, h5⟩ := h
  have h := band_len h1
  rwa [h3.len h2] at h

theorem bWeight (h : BanAt w lo hi tb n0 l) :
    Calls Tryz.prog 38 #[.pointer (some ⟨tb, 0, none⟩)] w fun e w' => (∃ k : Nat, e = .returned (.int .i64 k) ∧ l.length ≤ k ∧ k ≤ l.length * (Lib.bitLen n0 + 1)) ∧ Below w.heap.size w w' := by
  obtain ⟨fb, R, gone, YS, V, h1, h2, h3, h4, h5⟩ := h
  have hl := h3.len h2
  have hy := h2.lenY
  refine (band_weight h1 (by omega) (fun k => Nat.le_trans (lk_len k) (by omega))).mono ?_
  rintro e w' ⟨he, hb⟩
  rw [wsum_wgt] at he
  have hw := wgt_all h2 (by omega)
  rw [h4] at hw he
  exact ⟨⟨_, he, by omega, by rw [← hl]; exact hw.2⟩, hb⟩

theorem bDrop (h : BanAt w lo hi tb n0 l) (p : Pt) :
    Calls Tryz.prog 26 #[.pointer (some ⟨tb, 0, none⟩), vPt p.1 p.2.1 p.2.2] w fun e w' => e = .returned (.bool (decide (p ∈ l))) ∧ BanAt w' lo hi tb n0 (l.filter fun q => decide (q ≠ p)) ∧ KpS (fun k => lo ≤ k ∧ k < hi) w w' := by
  obtain ⟨fb, R, gone, YS, V, h1, h2, h3, h4, h5⟩ := h
  by_cases hp : p ∈ l
  · obtain ⟨x, hx, e⟩ := (h3.mem p).1 hp
    have hl := h2.lt hx
    rw [ptAt_eq hl] at e
    have hg := (h2.live x).1 hx
    refine (band_drop_yes h1 h2 (by omega) hl hg p e).mono ?_
    rintro e' w' ⟨rfl, V', hc, hk⟩
    have h9 := h3.drop h2 hl hx
    rw [e] at h9
    exact ⟨by simp [hp], ⟨fb, R, _, _, V', hc, h2.drop hg, h9, h4, h5⟩, hk⟩
  · have hno : ∀ x (h : x < R.length), R[x] = p → gone[x]? ≠ some false := fun x hx e hg => hp ((h3.mem p).2 ⟨x, (h2.live x).2 hg, by rw [ptAt_eq hx]; exact e⟩)
    refine (band_drop_no h1 h2 (by omega) p hno).mono ?_
    rintro e w' ⟨rfl, hb⟩
    have hf : (l.filter fun q => decide (q ≠ p)) = l := List.filter_eq_self.2 fun q hq => by
      simp only [decide_eq_true_eq]
      rintro rfl
      exact hp hq
    rw [hf]
    exact ⟨by simp [hp], ⟨fb, R, gone, YS, V, h1.below hb h1.tbr.2.2.2.2, h2, h3, h4, h5⟩, (KpS.refl _ w).below hb⟩
end
end Go.Proofs.YthpgkldpbbajfaaGreat
