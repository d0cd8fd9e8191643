/- A corner of points: Build, Report, Count, Len, Drop, Over, Under in words of the points that live. -/
import Derived.Test.YthplgcakhniidaaGreatCorC
import Derived.Test.YthplgcakhniidaaGreatCorE
import Derived.Test.YthplgcakhniidaaGreatQ7
namespace Go.Proofs.YthplgcakhniidaaGreat
open Go.RowKit Go.Sort Go.Shelf Go.Lib Go.Maps
set_option linter.unusedSimpArgs false
set_option linter.unusedVariables false

/-- a corner as it lies over its tree -/
def CorAt (w : World) (lo hi cb n0 : Nat) (l : List Pt) : Prop :=
  ∃ tb h2, TreeAt w lo h2 tb n0 l ∧ h2 ≤ cb ∧ cb < hi ∧ hi ≤ w.heap.size ∧ w.heap[cb]? = some (.cells #[.pointer (some ⟨tb, 0, none⟩)] 85 (0, 0))

section
variable {w w' : World} {lo hi cb n0 : Nat} {l : List Pt}
theorem TreeAt.few2 {w : World} {lo hi tb n0 : Nat} {l : List Pt} (h : TreeAt w lo hi tb n0 l) : l.length ≤ n0 ∧ n0 ≤ 20000 := by
  obtain ⟨fb, R, gone, YS, V, h1, h2, h3, h4, h5⟩ := h
  have := h2.lenY
  have := h3.len h2
  omega
theorem TreeAt.lo_le {w : World} {lo hi tb n0 : Nat} {l : List Pt} (h : TreeAt w lo hi tb n0 l) : lo ≤ hi := by
  obtain ⟨fb, R, gone, YS, V, h1, h2⟩ := h
  have := h1.tbr
  omega
theorem CorAt.kept {S : Nat → Prop} (h : CorAt w lo hi cb n0 l) (K : KpS S w w') (hS : ∀ k, lo ≤ k → k < hi → ¬ S k) : CorAt w' lo hi cb n0 l := by
  obtain ⟨tb, h2, hT, h3, h4, h5, h6⟩ := h
  have := hT.lo_le
  exact ⟨tb, h2, hT.kept K (fun k h7 h8 => hS k h7 (by omega)), h3, h4, Nat.le_trans h5 K.size, (K.block cb (by omega) (hS cb (by omega) h4)).trans h6⟩
theorem CorAt.below {B : Nat} (h : CorAt w lo hi cb n0 l) (hb : Below B w w') (hB : hi ≤ B) : CorAt w' lo hi cb n0 l := by
  obtain ⟨tb, h2, hT, h3, h4, h5, h6⟩ := h
  exact ⟨tb, h2, hT.below hb (by omega), h3, h4, Nat.le_trans h5 hb.size, (hb.block cb (by omega)).trans h6⟩
theorem CorAt.hi_le (h : CorAt w lo hi cb n0 l) : hi ≤ w.heap.size := by
  obtain ⟨tb, h2, hT, h3, h4, h5, h6⟩ := h
  exact h5
theorem CorAt.few (h : CorAt w lo hi cb n0 l) : l.length ≤ n0 ∧ n0 ≤ 20000 := by
  obtain ⟨tb, h2, hT, h3, h4, h5, h6⟩ := h
  exact hT.few2
theorem cor_cell {w : World} {cb tb : Nat} (h : w.heap[cb]? = some (.cells #[.pointer (some ⟨tb, 0, none⟩)] 85 (0, 0))) : w.cell? ⟨cb, 0, none⟩ = some (.pointer (some ⟨tb, 0, none⟩)) := by simp [World.cell?, h]

theorem coBuild_bad (a : Option Addr) (c : Nat) (l : List Pt) (w : World) (hl : RdK ePt 3 w a l) (hn : l.length ≤ 20000) (hw : wfN l) (hu : unl l = false) :
    Calls Tryz.prog 18 #[.slice a l.length c] w fun e w' => e = .returned (.tuple #[.pointer none, .int .i64 2]) ∧ Below w.heap.size w w' :=
  cn_Build_bad (by decide) (casc_build_bad a c l w hl (by omega) hw hu)

theorem coBuild (a : Option Addr) (c : Nat) (l : List Pt) (w : World) (hl : RdK ePt 3 w a l) (hn : l.length ≤ 20000) (hw : wfN l) (hu : unl l = true) :
    Calls Tryz.prog 18 #[.slice a l.length c] w fun e w' => ∃ cb, e = .returned (.tuple #[.pointer (some ⟨cb, 0, none⟩), .int .i64 0]) ∧ CorAt w' w.heap.size w'.heap.size cb l.length l ∧ Below w.heap.size w w' := by
  refine (cn_Build (R := fun tb W => TreeAt W w.heap.size W.heap.size tb l.length l) ((tBuild a c l w hl hn hw hu).mono fun e w1 ⟨tb, he, hT, hb⟩ => ⟨tb, he, hb, hT⟩)).mono ?_
  rintro e w' ⟨tb, W, rfl, hT, hb, rfl⟩
  have b1 : Below W.heap.size W (W.alloc (.cells #[.pointer (some ⟨tb, 0, none⟩)] 85)) := (Below.refl _ _).alloc (Nat.le_refl _) _
  exact ⟨_, rfl, ⟨tb, W.heap.size, hT.below b1 (Nat.le_refl _), Nat.le_refl _, by simp, Nat.le_refl _, lit0 _ _⟩, hb.trans (b1.mono hb.size)⟩

theorem coReport (h : CorAt w lo hi cb n0 l) (hl : wfL l) (x y : Int) (wx wy : Bool) (way : Int) (hway : way = (if wx then 1 else 0) + (if wy then 2 else 0)) :
    Calls Tryz.prog 35 #[.pointer (some ⟨cb, 0, none⟩), .int .i64 x, .int .i64 y, .int .u8 way] w fun e w' => ∃ v, ∃ c : Nat, e = .returned (.tuple #[v, .int .i64 ((c + (hasN l (crnF x y wx wy)).length : Nat) : Int)]) ∧ c ≤ 8 * Lib.bitLen n0 + 1 ∧ w'.ownsRow w.heap.size 32 1 v (hasN l (crnF x y wx wy)).length ((hasN l (crnF x y wx wy)).map (Value.int .u32)) ∧ Below w.heap.size w w' := by
  obtain ⟨tb, h2, hT, h3, h4, h5, h6⟩ := h
  refine (cn_Report (R := fun W v q w' => ∃ c : Nat, q = .int .i64 ((c + (hasN l (crnF x y wx wy)).length : Nat) : Int) ∧ c ≤ 8 * Lib.bitLen n0 + 1 ∧ w'.ownsRow W.heap.size 32 1 v (hasN l (crnF x y wx wy)).length ((hasN l (crnF x y wx wy)).map (Value.int .u32)) ∧ Below W.heap.size W w') (by omega) (cor_cell h6) x y wx wy way hway ?_).mono ?_
  · intro W hb
    refine (tReport (hT.below hb (by omega)) (bx1 x wx) (bx2 x wx) (bx1 y wy) (bx2 y wy) 0).mono ?_
    rintro e w' ⟨v, c, rfl, hc, hr, hb2⟩
    rw [hasB_crn hl] at *
    exact ⟨v, _, rfl, hb2, c, rfl, hc, hr, hb2⟩
  · rintro e w' ⟨v, q, rfl, W, hb, c, rfl, hc, hr, hb2⟩
    exact ⟨v, c, rfl, hc, rowMono hr hb.size, hb.trans (hb2.mono hb.size)⟩

theorem coCount (h : CorAt w lo hi cb n0 l) (hl : wfL l) (x y : Int) (wx wy : Bool) (way : Int) (hway : way = (if wx then 1 else 0) + (if wy then 2 else 0)) :
    Calls Tryz.prog 37 #[.pointer (some ⟨cb, 0, none⟩), .int .i64 x, .int .i64 y, .int .u8 way] w fun e w' => (∃ c : Nat, e = .returned (.tuple #[.int .i64 ((hasN l (crnF x y wx wy)).length : Nat), .int .i64 c]) ∧ c ≤ 8 * Lib.bitLen n0 + 1) ∧ Below w.heap.size w w' := by
  obtain ⟨tb, h2, hT, h3, h4, h5, h6⟩ := h
  refine (cn_Count (R := fun W v q w' => ∃ c : Nat, v = .int .i64 ((hasN l (crnF x y wx wy)).length : Nat) ∧ q = .int .i64 c ∧ c ≤ 8 * Lib.bitLen n0 + 1 ∧ Below W.heap.size W w') (by omega) (cor_cell h6) x y wx wy way hway ?_).mono ?_
  · intro W hb
    refine (tCount (hT.below hb (by omega)) (bx1 x wx) (bx2 x wx) (bx1 y wy) (bx2 y wy) 0).mono ?_
    rintro e w' ⟨⟨c, rfl, hc⟩, hb2⟩
    rw [← hasB_len, hasB_crn hl]
    exact ⟨_, _, rfl, hb2, c, rfl, rfl, hc, hb2⟩
  · rintro e w' ⟨v, q, rfl, W, hb, c, rfl, rfl, hc, hb2⟩
    exact ⟨⟨c, rfl, hc⟩, hb.trans (hb2.mono hb.size)⟩

/-- a way that is none -/
theorem coReport_no (h : CorAt w lo hi cb n0 l) (x y way : Int) (hw : 3 < way) :
    Calls Tryz.prog 35 #[.pointer (some ⟨cb, 0, none⟩), .int .i64 x, .int .i64 y, .int .u8 way] w fun e w' => e = .returned (.tuple #[.slice none 0 0, .int .i64 0]) ∧ w' = w := by
  obtain ⟨tb, h2, hT, h3, h4, h5, h6⟩ := h
  exact cn_Report_no _ (.inr ⟨cb, tb, rfl, cor_cell h6⟩) x y way (.inr hw)
theorem coCount_no (h : CorAt w lo hi cb n0 l) (x y way : Int) (hw : 3 < way) :
    Calls Tryz.prog 37 #[.pointer (some ⟨cb, 0, none⟩), .int .i64 x, .int .i64 y, .int .u8 way] w fun e w' => e = .returned (.tuple #[.int .i64 0, .int .i64 0]) ∧ w' = w := by
  obtain ⟨tb, h2, hT, h3, h4, h5, h6⟩ := h
  exact cn_Count_no _ (.inr ⟨cb, tb, rfl, cor_cell h6⟩) x y way (.inr hw)

theorem coLen (h : CorAt w lo hi cb n0 l) :
    Calls Tryz.prog 40 #[.pointer (some ⟨cb, 0, none⟩)] w fun e w' => e = .returned (.int .i64 l.length) ∧ w' = w := by
  obtain ⟨tb, h2, hT, h3, h4, h5, h6⟩ := h
  exact cn_Len (cor_cell h6) (tLen hT)

theorem coDrop (h : CorAt w lo hi cb n0 l) (p : Pt) :
    Calls Tryz.prog 38 #[.pointer (some ⟨cb, 0, none⟩), vPt p.1 p.2.1 p.2.2] w fun e w' => e = .returned (.bool (decide (p ∈ l))) ∧ CorAt w' lo hi cb n0 (l.filter fun q => decide (q ≠ p)) ∧ KpS (fun k => lo ≤ k ∧ k < hi) w w' := by
  obtain ⟨tb, h2, hT, h3, h4, h5, h6⟩ := h
  refine (cn_Drop (R := fun W b w' => b = decide (p ∈ l) ∧ TreeAt w' lo h2 tb n0 (l.filter fun q => decide (q ≠ p)) ∧ KpS (fun k => lo ≤ k ∧ k < h2) W w') (by omega) (cor_cell h6) p.1 p.2.1 p.2.2 ?_).mono ?_
  · intro W hb
    refine (tDrop (hT.below hb (by omega)) p).mono ?_
    rintro e w' ⟨rfl, hT2, hk⟩
    exact ⟨_, rfl, rfl, hT2, hk⟩
  · rintro e w' ⟨b, rfl, W, hb, rfl, hT2, hk⟩
    have K : KpS (fun k => lo ≤ k ∧ k < h2) w w' := ((KpS.refl _ w).below hb).trans hk
    exact ⟨rfl, ⟨tb, h2, hT2, h3, h4, Nat.le_trans h5 K.size, (K.block cb (by omega) (by omega)).trans h6⟩, K.mono fun k hk => by omega⟩

theorem bitLen_few {n : Nat} (h : n ≤ 20000) : 8 * Lib.bitLen n + 1 ≤ 200 := by
  have h1 : Lib.bitLen n ≤ 15 := Nat.le_trans (bitLen_mono h (by omega)) (by decide)
  omega

theorem coAll {tb : Nat} (hT : TreeAt w lo hi tb n0 l) {cb : Nat} (hcl : cb < w.heap.size) (hhi : hi ≤ w.heap.size) (hc : w.cell? ⟨cb, 0, none⟩ = some (.pointer (some ⟨tb, 0, none⟩))) (A B : Bx4) (f : Pt → Bool) (hf : srtI (hasX l A ++ hasX l B) = hasN l f) (ab : Option Addr) (hB : RdK eBx 5 w ab [bxO A, bxO B]) :
    Calls Tryz.prog 52 #[.pointer (some ⟨cb, 0, none⟩), .slice ab 2 2] w fun e w' => ∃ v q, e = .returned (.tuple #[v, q]) ∧ ∃ c : Nat, q = .int .i64 ((c + (hasN l f).length : Nat) : Int) ∧ c ≤ 2 * (8 * Lib.bitLen n0 + 1) ∧ w'.ownsRow w.heap.size 32 1 v (hasN l f).length ((hasN l f).map (Value.int .u32)) ∧ Below w.heap.size w w' := by
  have few := hT.few2
  have hK := bitLen_few few.2
  refine (cn_all (tb := tb) (K := 8 * Lib.bitLen n0 + 1) (fun b => hasB l b.1 b.2.1 b.2.2.1 b.2.2.2.1) hcl hc [bxO A, bxO B] ab 2 2 rfl hB (by omega) (by omega) (fun b => ?_) (fun W hb b => ?_)).mono ?_
  · have := List.length_filter_le (inB b.1 b.2.1 b.2.2.1 b.2.2.2.1) l
    show (hasB l b.1 b.2.1 b.2.2.1 b.2.2.2.1).length ≤ 20000
    rw [hasB_len]; omega
  · exact tReport (hT.below hb hhi) b.1 b.2.1 b.2.2.1 b.2.2.2.1 b.2.2.2.2
  · rintro e w' ⟨v, c, rfl, hc, hr, hb⟩
    have e1 : ([bxO A, bxO B].flatMap fun b : Bx => hasB l b.1 b.2.1 b.2.2.1 b.2.2.2.1) = hasX l A ++ hasX l B := by simp [hasX]
    rw [e1] at hr ⊢
    have e2 : (hasX l A ++ hasX l B).length = (hasN l f).length := by rw [← hf, srtI_len]
    rw [hf] at hr
    rw [e2]
    exact ⟨v, _, rfl, c, rfl, hc, hr, hb⟩

theorem coOver (h : CorAt w lo hi cb n0 l) (hl : wfL l) (px py pi : Int) (h1 : (Lit.int .i64 px).wf = true) (h2 : (Lit.int .i64 py).wf = true) :
    Calls Tryz.prog 19 #[.pointer (some ⟨cb, 0, none⟩), vPt px py pi] w fun e w' => ∃ v, ∃ c : Nat, e = .returned (.tuple #[v, .int .i64 ((c + (hasN l fun q => ovr q (px, py, pi)).length : Nat) : Int)]) ∧ c ≤ 2 * (8 * Lib.bitLen n0 + 1) ∧ w'.ownsRow w.heap.size 32 1 v (hasN l fun q => ovr q (px, py, pi)).length ((hasN l fun q => ovr q (px, py, pi)).map (Value.int .u32)) ∧ Below w.heap.size w w' := by
  obtain ⟨tb, h2', hT, h3, h4, h5, h6⟩ := h
  refine (cn_Over px py pi (wf64 h1) (wf64 h2) (fun W hb ab hB => coAll (hT.below hb (by omega)) (Nat.lt_of_lt_of_le (Nat.lt_of_lt_of_le h4 h5) hb.size) (Nat.le_trans (by omega) hb.size) ((hb.cell (p := ⟨cb, 0, none⟩) (by show cb < w.heap.size; omega)).trans (cor_cell h6)) _ _ (fun q => ovr q (px, py, pi)) (over_two hl (px, py, pi) h1 h2) ab hB)).mono ?_
  rintro e w' ⟨v, q, rfl, W, hb, c, rfl, hc, hr, hb2⟩
  exact ⟨v, c, rfl, hc, rowMono hr hb.size, hb.trans (hb2.mono hb.size)⟩

theorem coUnder (h : CorAt w lo hi cb n0 l) (hl : wfL l) (px py pi : Int) (h1 : (Lit.int .i64 px).wf = true) (h2 : (Lit.int .i64 py).wf = true) :
    Calls Tryz.prog 34 #[.pointer (some ⟨cb, 0, none⟩), vPt px py pi] w fun e w' => ∃ v, ∃ c : Nat, e = .returned (.tuple #[v, .int .i64 ((c + (hasN l (ovr (px, py, pi))).length : Nat) : Int)]) ∧ c ≤ 2 * (8 * Lib.bitLen n0 + 1) ∧ w'.ownsRow w.heap.size 32 1 v (hasN l (ovr (px, py, pi))).length ((hasN l (ovr (px, py, pi))).map (Value.int .u32)) ∧ Below w.heap.size w w' := by
  obtain ⟨tb, h2', hT, h3, h4, h5, h6⟩ := h
  refine (cn_Under px py pi (wf64 h1) (wf64 h2) (fun W hb ab hB => coAll (hT.below hb (by omega)) (Nat.lt_of_lt_of_le (Nat.lt_of_lt_of_le h4 h5) hb.size) (Nat.le_trans (by omega) hb.size) ((hb.cell (p := ⟨cb, 0, none⟩) (by show cb < w.heap.size; omega)).trans (cor_cell h6)) _ _ (ovr (px, py, pi)) (under_two hl (px, py, pi) h1 h2) ab hB)).mono ?_
  rintro e w' ⟨v, q, rfl, W, hb, c, rfl, hc, hr, hb2⟩
  exact ⟨v, c, rfl, hc, rowMono hr hb.size, hb.trans (hb2.mono hb.size)⟩
end
end Go.Proofs.YthplgcakhniidaaGreat
