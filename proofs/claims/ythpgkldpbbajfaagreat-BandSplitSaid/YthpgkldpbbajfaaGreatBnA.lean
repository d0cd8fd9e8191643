/- A band as it lies; none, Len, Weight. -/
import Derived.Test.YthpgkldpbbajfaaGreatBnP
import Derived.Test.YthpgkldpbbajfaaGreatCan
import Derived.Test.YthpgkldpbbajfaaGreatQ6
namespace Go.Proofs.YthpgkldpbbajfaaGreat
open Go.RowKit Go.Sort Go.Shelf Go.Lib Go.Maps
attribute [local irreducible] wpQuiet
attribute [local go_sem] Oper.still1
set_option linter.unusedSimpArgs false
set_option linter.unusedVariables false

/-- the values that a band's cells hold -/
structure BndV where
  rv : Value
  xv : Value
  gv : Value
  lv : Value
  fv : Value
  LY : Nat → Value
  LN : Nat → Value

abbrev bndB (rv xv gv : Value) (fb : Nat) (lv : Value) (n : Nat) : Obj := .cells #[rv, xv, gv, .pointer (some ⟨fb, 0, none⟩), lv, .int .i64 n] 102 (0, 0)

/-- a band as it lies; its blocks lie from lo on, ahead of hi; nc: whose numbers a node has -/
structure BndAt (w : World) (lo hi tb fb : Nat) (R : List Pt) (gone : List Bool) (cnt : Nat) (nc : Nat → List Nat) (V : BndV) : Prop where
  blk : w.heap[tb]? = some (bndB V.rv V.xv V.gv fb V.lv cnt)
  tbr : lo ≤ tb ∧ tb < hi ∧ lo ≤ fb ∧ fb < hi ∧ hi ≤ w.heap.size
  row : w.ownsRow lo 34 3 V.rv R.length (R.flatMap ePt)
  xs : w.ownsRow lo 2 1 V.xv R.length ((xsR R).map (Value.int .i64))
  gon : w.ownsRow lo 4 1 V.gv R.length (gone.map Value.bool)
  frm : FrmAt w lo fb R.length V.fv
  lst : w.ownsRow lo 108 2 V.lv (nds R.length).length (lsF V.LY V.LN (nds R.length).length)
  yss : ∀ k, k < (nds R.length).length → w.ownsRow lo 2 1 (V.LY k) (nc k).length (((nc k).map (yvR R)).map (Value.int .i64))
  nam : ∀ k, k < (nds R.length).length → w.ownsRow lo 32 1 (V.LN k) (nc k).length (((nc k).map (nmR R)).map (Value.int .u32))
  top : ∀ v, v = V.rv ∨ v = V.xv ∨ v = V.gv ∨ v = V.lv ∨ v = V.fv → ∀ g, v.ownBlock = some g → g < hi
  topL : ∀ k, k < (nds R.length).length → (∀ g, (V.LY k).ownBlock = some g → g < hi) ∧ ∀ g, (V.LN k).ownBlock = some g → g < hi
  neX : ∀ k, k < (nds R.length).length → ∀ g, V.xv.ownBlock = some g → (V.LY k).ownBlock ≠ some g
  neY : ∀ i k, i < (nds R.length).length → k < (nds R.length).length → i ≠ k → ∀ g, (V.LY i).ownBlock = some g → (V.LY k).ownBlock ≠ some g
  neN : ∀ i k, i < (nds R.length).length → k < (nds R.length).length → i ≠ k → ∀ g, (V.LN i).ownBlock = some g → (V.LN k).ownBlock ≠ some g

section
variable {w w' : World} {lo hi tb fb : Nat} {R : List Pt} {gone : List Bool} {cnt : Nat} {nc : Nat → List Nat} {V : BndV}
theorem BndAt.congr {nc' : Nat → List Nat} (h : BndAt w lo hi tb fb R gone cnt nc V) (e : ∀ k, k < (nds R.length).length → nc' k = nc k) : BndAt w lo hi tb fb R gone cnt nc' V :=
  ⟨h.blk, h.tbr, h.row, h.xs, h.gon, h.frm, h.lst, fun k hk => by rw [e k hk]; exact h.yss k hk, fun k hk => by rw [e k hk]; exact h.nam k hk, h.top, h.topL, h.neX, h.neY, h.neN⟩
/-- what lies elsewhere may change -/
theorem BndAt.kept {S : Nat → Prop} (h : BndAt w lo hi tb fb R gone cnt nc V) (K : KpS S w w') (hS : ∀ k, lo ≤ k → k < hi → ¬ S k) : BndAt w' lo hi tb fb R gone cnt nc V := by
  have ht := h.top
  have hr : ∀ {e : TypeId} {sz : Nat} {v : Value} {n : Nat} {xs : List Value}, w.ownsRow lo e sz v n xs → (∀ g, v.ownBlock = some g → g < hi) → w'.ownsRow lo e sz v n xs := fun hr hv => rowK hr K fun g e => hS g (hr.lt g e).1 (hv g e)
  exact ⟨blkK K h.blk (hS tb h.tbr.1 h.tbr.2.1), ⟨h.tbr.1, h.tbr.2.1, h.tbr.2.2.1, h.tbr.2.2.2.1, Nat.le_trans h.tbr.2.2.2.2 K.size⟩,
    hr h.row (ht _ (by simp)), hr h.xs (ht _ (by simp)), hr h.gon (ht _ (by simp)),
    ⟨blkK K h.frm.blk (hS fb h.tbr.2.2.1 h.tbr.2.2.2.1), hr h.frm.row (ht _ (by simp))⟩, hr h.lst (ht _ (by simp)),
    fun k hk => hr (h.yss k hk) (h.topL k hk).1, fun k hk => hr (h.nam k hk) (h.topL k hk).2, h.top, h.topL, h.neX, h.neY, h.neN⟩
theorem BndAt.below {B : Nat} (h : BndAt w lo hi tb fb R gone cnt nc V) (hb : Below B w w') (hB : hi ≤ B) : BndAt w' lo hi tb fb R gone cnt nc V :=
  h.kept (S := fun k => hi ≤ k) ⟨hb.os, hb.tape, hb.output, hb.size, fun k hk hn => hb.block k (by omega)⟩ fun k h1 h2 h3 => by omega

/-- the lists, by index -/
theorem BndAt.lists (h : BndAt w lo hi tb fb R gone cnt nc V) (h0 : 0 < (nds R.length).length) : ∃ gl cl, V.lv = .slice (some ⟨gl, 0, none⟩) (nds R.length).length cl ∧ gl < w.heap.size ∧ ∀ k, k < (nds R.length).length → w.cell? ⟨gl, k * 2, none⟩ = some (V.LY k) ∧ w.cell? ⟨gl, k * 2 + 1, none⟩ = some (V.LN k) := by
  obtain ⟨g, c, e, _, hg, _⟩ := ownRow_at h.lst h0
  have hl := h.lst
  rw [e] at hl
  refine ⟨g, c, e, hg, fun k hk => ?_⟩
  have h1 := hl.cellAt (k * 2) (by omega)
  have h2 := hl.cellAt (k * 2 + 1) (by omega)
  obtain ⟨h3, h4⟩ := lsF_get V.LY V.LN hk
  rw [h3] at h1
  rw [h4] at h2
  exact ⟨h1, h2⟩
end

set_option maxRecDepth 100000 in
theorem band_none (tb fb : Nat) (w : World) (h3 : w.cell? ⟨tb, 3, none⟩ = some (.pointer (some ⟨fb, 0, none⟩))) :
    Calls Tryz.prog 68 #[.pointer (some ⟨tb, 0, none⟩)] w fun e w' => e = .returned (.bool false) ∧ w' = w := by
  go_enter Tryz.func68, Tryz.ntmps68
  go_wp2
  go_ret
  exact ⟨rfl, rfl⟩
set_option maxRecDepth 100000 in
theorem band_none_nil (w : World) : Calls Tryz.prog 68 #[.pointer none] w fun e w' => e = .returned (.bool true) ∧ w' = w := by
  go_enter Tryz.func68, Tryz.ntmps68
  go_wp2
  go_ret
  exact ⟨rfl, rfl⟩
set_option maxRecDepth 100000 in
theorem band_len {w : World} {lo hi tb fb cnt : Nat} {R : List Pt} {gone : List Bool} {nc : Nat → List Nat} {V : BndV} (hA : BndAt w lo hi tb fb R gone cnt nc V) :
    Calls Tryz.prog 33 #[.pointer (some ⟨tb, 0, none⟩)] w fun e w' => e = .returned (.int .i64 cnt) ∧ w' = w := by
  have hb := hA.blk
  have c3 : w.cell? ⟨tb, 3, none⟩ = some (.pointer (some ⟨fb, 0, none⟩)) := by simp [World.cell?, hb]
  have c5 : w.cell? ⟨tb, 5, none⟩ = some (.int .i64 cnt) := by simp [World.cell?, hb]
  have CN := band_none tb fb w c3
  clear hb hA
  go_enter Tryz.func33, Tryz.ntmps33
  go_wp2_with (go_at_call 68; refine CN.mono ?_; rintro e w' ⟨rfl, rfl⟩)
  go_ret
  exact ⟨rfl, rfl⟩
set_option maxRecDepth 100000 in
theorem band_len_nil (w : World) : Calls Tryz.prog 33 #[.pointer none] w fun e w' => e = .returned (.int .i64 0) ∧ w' = w := by
  have CN := band_none_nil w
  go_enter Tryz.func33, Tryz.ntmps33
  go_wp2_with (go_at_call 68; refine CN.mono ?_; rintro e w' ⟨rfl, rfl⟩)
  go_ret
  exact ⟨rfl, rfl⟩
set_option maxRecDepth 100000 in
theorem band_weight_nil (w : World) : Calls Tryz.prog 38 #[.pointer none] w fun e w' => e = .returned (.int .i64 0) ∧ w' = w := by
  have CN := band_none_nil w
  go_enter Tryz.func38, Tryz.ntmps38
  go_wp2_with (go_at_call 68; refine CN.mono ?_; rintro e w' ⟨rfl, rfl⟩)
  go_ret
  exact ⟨rfl, rfl⟩

/-- the lengths of the first lists -/
def wsum (nc : Nat → List Nat) (j : Nat) : Nat := ((List.range j).map fun k => (nc k).length).sum
theorem wsum_zero (nc : Nat → List Nat) : wsum nc 0 = 0 := rfl
theorem wsum_succ (nc : Nat → List Nat) (j : Nat) : wsum nc (j + 1) = wsum nc j + (nc j).length := by
  unfold wsum
  rw [List.range_succ, List.map_append, List.sum_append]
  simp
theorem wsum_wgt (N : List Nd) (YS : List Nat) : wsum (lk N YS) N.length = wgt N YS := by
  unfold wsum wgt
  congr 1
  apply List.ext_getElem (by simp)
  intro i h1 h2
  simp only [List.length_map, List.length_range] at h1
  simp [lk, h1]
theorem wsum_le {nc : Nat → List Nat} {m : Nat} (h : ∀ k, (nc k).length ≤ m) : ∀ j, wsum nc j ≤ j * m
  | 0 => by simp [wsum]
  | j + 1 => by
    rw [wsum_succ, Nat.add_mul, Nat.one_mul]
    have := wsum_le h j
    have := h j
    omega

set_option maxRecDepth 100000 in
set_option maxHeartbeats 1000000 in
theorem band_weight {w : World} {lo hi tb fb cnt : Nat} {R : List Pt} {gone : List Bool} {nc : Nat → List Nat} {V : BndV} (hA : BndAt w lo hi tb fb R gone cnt nc V) (hR : R.length ≤ 20000) (hnc : ∀ k, (nc k).length ≤ 20000) :
    Calls Tryz.prog 38 #[.pointer (some ⟨tb, 0, none⟩)] w fun e w' => e = .returned (.int .i64 (wsum nc (nds R.length).length : Nat)) ∧ Below w.heap.size w w' := by
  have hb := hA.blk
  have c3 : w.cell? ⟨tb, 3, none⟩ = some (.pointer (some ⟨fb, 0, none⟩)) := by simp [World.cell?, hb]
  obtain ⟨la, lc, el⟩ := rowV hA.lst
  have c4 : w.cell? ⟨tb, 4, none⟩ = some (.slice la (nds R.length).length lc) := by simp [World.cell?, hb]; exact el
  have CN := band_none tb fb w c3
  have hM : (nds R.length).length ≤ 40000 := by rw [nds_len]; omega
  have HL := Lib.hid (hA.lists (w := w))
  have HEL := Lib.hid el
  have HY : Hid (∀ k, k < (nds R.length).length → ∃ a c, V.LY k = .slice a (nc k).length c) := fun k hk => rowV (hA.yss k hk)
  have HN : Hid (∀ k, k < (nds R.length).length → ∃ a c, V.LN k = .slice a (nc k).length c) := fun k hk => rowV (hA.nam k hk)
  have HW := Lib.hid (wsum_le hnc)
  have HNC := Lib.hid hnc
  have HS := Lib.hid (wsum_succ nc)
  have HZ := Lib.hid (wsum_zero nc)
  clear hA hb hnc el
  generalize (nds R.length).length = M at *
  go_enter Tryz.func38, Tryz.ntmps38
  go_wp2_with (go_at_call 68; refine CN.mono ?_; rintro e w' ⟨rfl, ew⟩; subst w')
  clear c3 c4 CN
  go_loopg [3, 14] M (fun kx s3 s14 wr => ∃ j sm : Nat, s14 = .int .i64 j ∧ j ≤ M ∧ M - j ≤ kx ∧ s3 = .int .i64 sm ∧ Hid (sm = wsum nc j) ∧ Below w.heap.size w wr)
  case atStart => exact ⟨0, 0, rfl, Nat.zero_le _, by omega, rfl, HZ.out.symm, Below.refl _ _⟩
  case round =>
    obtain ⟨j, sm, rfl, hj, hkx, rfl, HSM, hbw⟩ := hrel
    by_cases hjM : j < M
    · obtain ⟨gl, cl, e2, hgl, hcs⟩ := HL.out (by omega)
      rw [HEL.out] at e2
      injection e2 with e2 e3 e4
      have EA := Lib.hid e2
      obtain ⟨x0, x1⟩ := hcs j hjM
      have x0 := (hbw.cell (p := ⟨gl, j * 2, none⟩) hgl).trans x0
      have x1 := (hbw.cell (p := ⟨gl, j * 2 + 1, none⟩) hgl).trans x1
      obtain ⟨ya, yc, ey⟩ := HY.out j hjM
      obtain ⟨za, zc, ez⟩ := HN.out j hjM
      rw [ey] at x0
      rw [ez] at x1
      have h1 := HW.out j
      have h2 := HNC.out j
      have h3 : sm ≤ 800000000 := by
        have h5 := HSM.out
        have h4 : j * 20000 ≤ 40000 * 20000 := Nat.mul_le_mul_right _ (by omega)
        omega
      have HS1 := Lib.hid (HS.out j)
      clear e2 e3 e4 hcs ey ez h1
      generalize (nc j).length = q at *
      obtain rfl := EA.out
      clear EA HEL
      have hws := hbw.size
      go_wp2
      go_roundg (M - (j + 1))
      case measure => omega
      case rel => exact ⟨j + 1, sm + q, by go_num, by omega, Nat.le_refl _, by go_num, by show _ = _; rw [HS1.out, ← HSM.out], hbw.alloc hws _⟩
    · obtain rfl : j = M := by omega
      go_wp2
      go_ret
      rw [← HSM.out]
      exact ⟨rfl, hbw⟩
end Go.Proofs.YthpgkldpbbajfaaGreat
