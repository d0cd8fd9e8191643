/- A heap of points: Build, Three, Any, Len, Drop in words of the points that live. -/
import Derived.Test.YtggfdlanobndjaaGreatHpC
import Derived.Test.YtggfdlanobndjaaGreatHpD
import Derived.Test.YtggfdlanobndjaaGreatHpG
namespace Go.Proofs.YtggfdlanobndjaaGreat
open Go.RowKit Go.Sort Go.Shelf Go.Lib Go.Maps
set_option linter.unusedSimpArgs false
set_option linter.unusedVariables false

/-- a heap of points, as it lies: l the living ones; n0: how many were built -/
def HepAt (w : World) (lo hi tb n0 : Nat) (l : List Pt) : Prop :=
  ∃ fb R h V, HptAt w lo hi tb fb R h l.length V ∧ HpWF R h ∧ Livs R h l ∧ R.length = n0 ∧ n0 ≤ 20000
/-- what a heap may cost beside what it tells -/
def hMost (n : Nat) : Nat := 6 * Lib.bitLen n + 1
theorem hMost_few {n : Nat} (h : n ≤ 20000) : hMost n ≤ 4000 := by
  have h1 : Lib.bitLen n ≤ 15 := Nat.le_trans (bitLen_mono h (by omega)) (by decide)
  unfold hMost
  omega

section
variable {w w' : World} {lo hi tb n0 : Nat} {l : List Pt}
theorem HepAt.kept {S : Nat → Prop} (h : HepAt w lo hi tb n0 l) (K : KpS S w w') (hS : ∀ k, lo ≤ k → k < hi → ¬ S k) : HepAt w' lo hi tb n0 l := by
  obtain ⟨fb, R, h, V, h1, h2⟩ := h
  exact ⟨fb, R, h, V, h1.kept K hS, h2⟩
theorem HepAt.below {B : Nat} (h : HepAt w lo hi tb n0 l) (hb : Below B w w') (hB : hi ≤ B) : HepAt w' lo hi tb n0 l := by
  obtain ⟨fb, R, h, V, h1, h2⟩ := h
  exact ⟨fb, R, h, V, h1.below hb hB, h2⟩
theorem HepAt.hi_le (h : HepAt w lo hi tb n0 l) : hi ≤ w.heap.size := by
  obtain ⟨fb, R, h, V, h1, h2⟩ := h
  exact h1.tbr.2.2.2.2
theorem HepAt.lo_le (h : HepAt w lo hi tb n0 l) : lo ≤ hi := by
  obtain ⟨fb, R, h, V, h1, h2⟩ := h
  have := h1.tbr
  omega
theorem HepAt.few2 (h : HepAt w lo hi tb n0 l) : l.length ≤ n0 ∧ n0 ≤ 20000 := by
  obtain ⟨fb, R, h, V, h1, h2, h3, h4, h5⟩ := h
  have := h2.few
  have := h3.len
  omega

theorem hBuild (a : Option Addr) (c : Nat) (l : List Pt) (w : World) (hl : RdK ePt 3 w a l) (hn : l.length ≤ 20000) (hw : wfN l) (hu : unl l = true) :
    Calls Tryz.prog 16 #[.slice a l.length c] w fun e w' => ∃ tb, e = .returned (.tuple #[.pointer (some ⟨tb, 0, none⟩), .int .i64 0]) ∧ HepAt w' w.heap.size w'.heap.size tb l.length l ∧ Below w.heap.size w w' :=
  (heap_build a c l w hl hn hw hu).mono fun e w' ⟨tb, fb, V, he, h1, h2⟩ => by
    have hu' : (ids l).Nodup := by unfold unl at hu; simpa using hu
    have hs := srtX_sorted hu'
    have hid : (ids (srtX l)).Nodup := ((srtX_perm l).map _).nodup_iff.2 hu'
    have hlen : (srtX l).length = l.length := (srtX_perm l).length_eq
    rw [hlen] at h1
    exact ⟨tb, he, ⟨fb, _, _, V, h1, (fstH_wf hs hid).1, (first_pts hs hid).trans (srtX_perm l), hlen, by omega⟩, h2⟩

theorem hThree (h : HepAt w lo hi tb n0 l) (x1 x2 y : Int) :
    Calls Tryz.prog 22 #[.pointer (some ⟨tb, 0, none⟩), .int .i64 x1, .int .i64 x2, .int .i64 y] w fun e w' => ∃ v, ∃ c : Nat, e = .returned (.tuple #[v, .int .i64 (c : Nat)]) ∧ ((has3 l x1 x2 y).length ≤ c ∧ c ≤ 2 * (has3 l x1 x2 y).length + hMost n0) ∧ w'.ownsRow w.heap.size 32 1 v (has3 l x1 x2 y).length ((has3 l x1 x2 y).map (Value.int .u32)) ∧ Below w.heap.size w w' := by
  obtain ⟨fb, R, h, V, h1, h2, h3, h4, h5⟩ := h
  refine (heap_three h1 h2 (by omega) x1 x2 y).mono ?_
  rintro e w' ⟨v, he, hr, hb⟩
  have e0 : (askH true R h x1 x2 y).1 = plc3 R h x1 x2 y := by rw [askH_is h2 true x1 x2 y]; simp
  obtain ⟨e1, e2⟩ := plc3_names h3 x1 x2 y
  have hc := askH_cost h2 (by omega) true x1 x2 y
  rw [e0, e2, h4] at hc
  rw [e0, e1, e2] at hr
  refine ⟨v, _, he, ⟨hc.1, ?_⟩, hr, hb⟩
  have := hc.2
  unfold hMost
  simp only [if_true] at this
  omega

theorem hAny (h : HepAt w lo hi tb n0 l) (x1 x2 y : Int) :
    Calls Tryz.prog 24 #[.pointer (some ⟨tb, 0, none⟩), .int .i64 x1, .int .i64 x2, .int .i64 y] w fun e w' => (∃ c : Nat, e = .returned (.tuple #[.bool (decide (0 < (l.filter (in3 x1 x2 y)).length)), .int .i64 c]) ∧ c ≤ hMost n0) ∧ Below w.heap.size w w' := by
  obtain ⟨fb, R, h, V, h1, h2, h3, h4, h5⟩ := h
  refine (heap_any h1 h2 (by omega) x1 x2 y).mono ?_
  rintro e w' ⟨he, hb⟩
  have e0 : (askH false R h x1 x2 y).1 = (plc3 R h x1 x2 y).take 1 := by rw [askH_is h2 false x1 x2 y]; simp
  have e2 := (plc3_names h3 x1 x2 y).2
  rw [has3_len] at e2
  have hc := (askH_cost h2 (by omega) false x1 x2 y).2
  rw [h4] at hc
  have e3 : decide (0 < (askH false R h x1 x2 y).1.length) = decide (0 < (l.filter (in3 x1 x2 y)).length) := by
    rw [e0, ← e2, List.length_take]
    simp only [decide_eq_decide]
    omega
  rw [e3] at he
  refine ⟨⟨_, he, ?_⟩, hb⟩
  unfold hMost
  simpa using hc

theorem hLen (h : HepAt w lo hi tb n0 l) :
    Calls Tryz.prog 18 #[.pointer (some ⟨tb, 0, none⟩)] w fun e w' => e = .returned (.int .i64 l.length) ∧ w' = w := by
  obtain ⟨fb, R, h, V, h1, h2, h3, h4, h5⟩ := h
  exact heap_len h1

theorem hDrop (h : HepAt w lo hi tb n0 l) (p : Pt) :
    Calls Tryz.prog 21 #[.pointer (some ⟨tb, 0, none⟩), vPt p.1 p.2.1 p.2.2] w fun e w' => e = .returned (.bool (decide (p ∈ l))) ∧ HepAt w' lo hi tb n0 (l.filter fun q => decide (q ≠ p)) ∧ KpS (fun k => lo ≤ k ∧ k < hi) w w' := by
  have hfw := h.few2
  obtain ⟨fb, R, h, V, h1, h2, h3, h4, h5⟩ := h
  have miss : p ∉ l → ∀ (e : Ending) (w' : World), e = .returned (.bool false) → Below w.heap.size w w' → e = .returned (.bool (decide (p ∈ l))) ∧ HepAt w' lo hi tb n0 (l.filter fun q => decide (q ≠ p)) ∧ KpS (fun k => lo ≤ k ∧ k < hi) w w' := fun hp e w' he hb => by
    have hf : (l.filter fun q => decide (q ≠ p)) = l := List.filter_eq_self.2 fun q hq => by
      simp only [decide_eq_true_eq]
      rintro rfl
      exact hp hq
    rw [hf]
    exact ⟨by simp [hp, he], ⟨fb, R, h, V, h1.below hb h1.tbr.2.2.2.2, h2, h3, h4, h5⟩, (KpS.refl _ w).below hb⟩
  by_cases hR : ∃ x, ∃ h : x < R.length, R[x] = p
  · obtain ⟨x, hx, e⟩ := hR
    refine (heap_drop_at h1 h2 (by omega) (by omega) (by omega) hx p e).mono ?_
    rintro e' w' (⟨hn, he, hb⟩ | ⟨hy, he, hA, hk⟩)
    · refine miss (fun hp => ?_) e' w' he hb
      obtain ⟨i, hi, ei⟩ := (h3.mem p).1 hp
      have hil := h2.lt hi
      rw [ptAt_eq hil, ← e] at ei
      have : i = x := by
        rcases Nat.lt_trichotomy i x with hlt | heq | hlt
        · have := List.pairwise_iff_getElem.1 h2.rowX i x hil hx hlt
          rw [ei] at this
          unfold ltX at this
          omega
        · exact heq
        · have := List.pairwise_iff_getElem.1 h2.rowX x i hx hil hlt
          rw [ei] at this
          unfold ltX at this
          omega
      exact hn (this ▸ hi)
    · have hp : p ∈ l := (h3.mem p).2 ⟨x, hy, by rw [ptAt_eq hx]; exact e⟩
      have h9 := h3.drop h2 hy
      rw [ptAt_eq hx, e] at h9
      obtain ⟨hw1, hw2⟩ := h2.drop hy
      have hln : ((l.filter fun q => decide (q ≠ p)).length : Int) = l.length - 1 := by
        have a1 := h3.len
        have a2 := h9.len
        have a3 := hw2.length_eq
        simp only [List.length_cons] at a3
        omega
      refine ⟨by simp [hp, he], ⟨fb, R, _, V, ?_, hw1, h9, h4, h5⟩, hk⟩
      rw [hln]
      exact hA
  · refine (heap_drop_miss h1 h2.rowX (by omega) p (fun x hx e => hR ⟨x, hx, e⟩)).mono ?_
    rintro e w' ⟨he, hb⟩
    refine miss (fun hp => ?_) e w' he hb
    obtain ⟨i, hi, ei⟩ := (h3.mem p).1 hp
    have hil := h2.lt hi
    exact hR ⟨i, hil, by rw [← ptAt_eq hil]; exact ei⟩
end
end Go.Proofs.YtggfdlanobndjaaGreat
