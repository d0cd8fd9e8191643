/- low: canon. -/
import Derived.Test.YtggfdlanobndjaaGreatLwB
namespace Go.Proofs.YtggfdlanobndjaaGreat
open Go.RowKit Go.Sort Go.Shelf Go.Lib Go.Maps
attribute [local irreducible] wpQuiet
attribute [local go_sem] Oper.still1
set_option linter.unusedSimpArgs false
set_option linter.unusedVariables false

/-- a part's nodes, and what is touched -/
def canL (R : List Pt) (x1 x2 : Int) : List Nat × Nat :=
  if R.length = 0 ∨ x2 < x1 then ([], 0)
  else if hfr R x1 < hto R x2 then (((mkT 0 R.length).canon 0 (hfr R x1) (hto R x2)).1, (rkFirst (xsR R) x1).2 + (rkAbove (xsR R) x2).2 + ((mkT 0 R.length).canon 0 (hfr R x1) (hto R x2)).2)
  else ([], (rkFirst (xsR R) x1).2 + (rkAbove (xsR R) x2).2)
theorem canL_no {R : List Pt} {x1 x2 : Int} (hc : R.length = 0 ∨ x2 < x1) : canL R x1 x2 = ([], 0) := by unfold canL; rw [if_pos hc]
def CanQ (w : World) (r : List Nat × Nat) (e : Ending) (w' : World) : Prop :=
  ∃ v, e = .returned (.tuple #[v, .int .i64 (r.2 : Nat)]) ∧ w'.ownsRow w.heap.size 3 1 v r.1.length (r.1.map eNat) ∧ Below w.heap.size w w'

set_option maxRecDepth 100000 in
set_option maxHeartbeats 4000000 in
theorem low_canon {W : World} {lo hi tb fb : Nat} {cnt : Int} {R : List Pt} {h : Hld} {V : HepV} (hA : LptAt W lo hi tb fb R h cnt V) (hR : R.length ≤ 20000) (x1 x2 : Int) :
    Calls Tryz.prog 75 #[.pointer (some ⟨tb, 0, none⟩), .int .i64 x1, .int .i64 x2] W (CanQ W (canL R x1 x2)) := by
  have htl := hA.tbl
  have hb' := hA.blk
  obtain ⟨ra, rc, erv⟩ := rowV hA.row
  obtain ⟨xa, xc, exv, -, -, rx⟩ := Rd.of_owns hA.xs
  rw [erv, exv] at hb'
  have lx : (xsR R).length = R.length := by unfold xsR; rw [List.length_map]
  rw [lx] at hb'
  have c0 : W.cell? ⟨tb, 0, none⟩ = some (.slice ra R.length rc) := by simp [World.cell?, hb']
  have c1 : W.cell? ⟨tb, 1, none⟩ = some (.slice xa R.length xc) := by simp [World.cell?, hb']
  have c2 : W.cell? ⟨tb, 2, none⟩ = some (.pointer (some ⟨fb, 0, none⟩)) := by simp [World.cell?, hb']
  by_cases hno : R.length = 0 ∨ x2 < x1
  · rw [canL_no hno]
    have HQ : Hid (CanQ W ([], 0) (.returned (.tuple #[.slice none 0 0, .int .i64 0])) W) := ⟨_, rfl, World.ownsRow_nil _ _ _ _, Below.refl _ _⟩
    clear hA hb' rx erv exv c1 c2
    generalize R.length = n at *
    by_cases h0 : n = 0
    · have d0 : ((n : Int) == 0) = true := by simp [h0]
      have d1 : (n == 0) = true := by simp [h0]
      have d2 : decide (n = 0) = true := by simp [h0]
      clear h0 hno lx
      go_enter Tryz.func75, Tryz.ntmps75
      go_wp2
      go_ret2
      exact HQ.out
    · have d0 : ((n : Int) == 0) = false := by simp [h0]
      have d1 : (n == 0) = false := by simp [h0]
      have d2 : decide (n = 0) = false := by simp [h0]
      have f1 : decide (x1 > x2) = true := by simp; omega
      have f2 : decide (x2 < x1) = true := by simp; omega
      clear h0 hno lx
      go_enter Tryz.func75, Tryz.ntmps75
      go_wp2
      go_ret2
      exact HQ.out
  · have h0 : 0 < R.length := by omega
    have CX1 := Lib.hid (fun W' (hb : Below W.heap.size W W') => rFirst xa (xsR R) xc x1 W' (rx.below hb) (by omega))
    have CX2 := Lib.hid (fun W' (hb : Below W.heap.size W W') => rAbove xa (xsR R) xc x2 W' (rx.below hb) (by omega))
    have l1 := bsrch_lk (fun i => decide (x1 ≤ (xsR R).getD i 0)) (xsR R).length
    have l2 := bsrch_lk (fun i => decide (x2 < (xsR R).getD i 0)) (xsR R).length
    have l1' : (rkFirst (xsR R) x1).2 ≤ 20000 := by unfold rkFirst; omega
    have l2' : (rkAbove (xsR R) x2).2 ≤ 20000 := by unfold rkAbove; omega
    obtain ⟨w1', w2', w3'⟩ := mkT_spec 0 R.length h0
    have hTs := mkT_size 0 R.length h0
    have hcs := (FT.canon_size (hfr R x1) (hto R x2) (mkT 0 R.length) 0).1
    have hto2 := hto_len R x2
    have CCN : Hid (hfr R x1 < hto R x2 → ∀ W', Below W.heap.size W W' → Calls Tryz.prog 95 #[.pointer (some ⟨fb, 0, none⟩), .int .i64 (hfr R x1), .int .i64 (hto R x2)] W' (CanP W' R.length (hfr R x1) (hto R x2))) := fun hft W' hb =>
      frame_canon lo fb R.length (hfr R x1) (hto R x2) V.fv (by omega) hft hto2 W' (hA.below hb hA.tbr.2.2.2.2).frm
    have HASK : Hid (canL R x1 x2 = if hfr R x1 < hto R x2 then (((mkT 0 R.length).canon 0 (hfr R x1) (hto R x2)).1, (rkFirst (xsR R) x1).2 + (rkAbove (xsR R) x2).2 + ((mkT 0 R.length).canon 0 (hfr R x1) (hto R x2)).2) else ([], (rkFirst (xsR R) x1).2 + (rkAbove (xsR R) x2).2)) := by
      show canL R x1 x2 = _
      conv => lhs; unfold canL
      rw [if_neg hno]
    have HFR : Hid (hfr R x1 = (rkFirst (xsR R) x1).1 ∧ hto R x2 = (rkAbove (xsR R) x2).1) := ⟨rfl, rfl⟩
    rw [← HFR.out.1, lx] at CX1
    rw [← HFR.out.2, lx] at CX2
    have f1 : decide (x1 > x2) = false := by simp; omega
    have f2 : decide (x2 < x1) = false := by simp; omega
    unfold CanP at CCN
    have hcs2 : ((mkT 0 R.length).canon 0 (hfr R x1) (hto R x2)).2 ≤ 40000 := by omega
    obtain ⟨dg, hdg⟩ : ∃ dg, dg = (mkT 0 R.length).canon 0 (hfr R x1) (hto R x2) := ⟨_, rfl⟩
    rw [← hdg] at CCN HASK hcs2
    clear hA hb' rx erv exv hno l1 l2 w1' w2' w3' hTs lx hdg hcs hto2
    generalize hfr R x1 = fr at *
    generalize hto R x2 = tu at *
    generalize hr1 : (rkFirst (xsR R) x1).2 = r1 at *
    generalize hr2 : (rkAbove (xsR R) x2).2 = r2 at *
    generalize canL R x1 x2 = ask at *
    clear hr1 hr2 HFR
    generalize R.length = n at *
    have d0 : ((n : Int) == 0) = false := by simp; omega
    have d1 : (n == 0) = false := by simp; omega
    have d2 : decide (n = 0) = false := by simp; omega
    go_enter Tryz.func75, Tryz.ntmps75
    go_wp2_with fail
    refine (CX1.out W (Below.refl _ _)).mono ?_
    rintro e w1 ⟨rfl, hb1⟩
    have c1' := (hb1.cell (p := ⟨tb, 1, none⟩) htl).trans c1
    have HB1 := Lib.hid hb1
    clear hb1
    go_wp2_with fail
    refine (CX2.out w1 HB1.out).mono ?_
    rintro e w2 ⟨rfl, hb2⟩
    have HB2 : Hid (Below W.heap.size W w2) := HB1.out.trans (hb2.mono HB1.out.size)
    have c2' := (HB2.out.cell (p := ⟨tb, 2, none⟩) htl).trans c2
    clear hb2 c1' CX1 CX2 HB1 c0 c1 c2
    by_cases hft : fr < tu
    · have g1 : decide ((tu : Int) ≤ (fr : Int)) = false := by simp; omega
      have g2 : decide (tu ≤ fr) = false := by simp; omega
      have hask := HASK.out
      rw [if_pos hft] at hask
      have HASK2 := Lib.hid hask
      have CC := Lib.hid (CCN.out hft w2 HB2.out)
      clear hask hft CCN HASK
      go_wp2_with fail
      refine CC.out.mono ?_
      rintro e w3 ⟨v, rfl, hown, hb3⟩
      have HFIN : Hid (CanQ W ask (.returned (.tuple #[v, .int .i64 ((r1 + r2 + dg.2 : Nat) : Int)])) w3) := by
        rw [HASK2.out]
        exact ⟨v, rfl, rowMono hown HB2.out.size, HB2.out.trans (hb3.mono HB2.out.size)⟩
      clear hown hb3 CC
      go_wp2
      go_ret2
      exact HFIN.out
    · have g1 : decide ((tu : Int) ≤ (fr : Int)) = true := by simp; omega
      have g2 : decide (tu ≤ fr) = true := by simp; omega
      have hask := HASK.out
      rw [if_neg hft] at hask
      have HFIN : Hid (CanQ W ask (.returned (.tuple #[.slice none 0 0, .int .i64 ((r1 + r2 : Nat) : Int)])) w2) := by
        rw [hask]
        exact ⟨_, rfl, World.ownsRow_nil _ _ _ _, HB2.out⟩
      clear hask hft CCN HASK
      go_wp2
      go_ret2
      exact HFIN.out
end Go.Proofs.YtggfdlanobndjaaGreat
