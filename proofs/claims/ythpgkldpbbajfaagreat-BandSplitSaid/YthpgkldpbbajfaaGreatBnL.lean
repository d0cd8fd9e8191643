/- What band.Build has laid, step by step. No function of the program is walked here. -/
import Derived.Test.YthpgkldpbbajfaaGreatBnA
namespace Go.Proofs.YthpgkldpbbajfaaGreat
open Go.RowKit Go.Sort Go.Shelf Go.Lib Go.Maps
set_option linter.unusedSimpArgs false
set_option linter.unusedVariables false

theorem elBL : ElemOK Tryz.prog 100 108 2 48 := .mk' (z := .agg #[.slice none 0 0, .slice none 0 0]) Tryz.underlying100 (by kernel_rfl) rfl (by decide)

/-- the points of a node, in order by Y -/
theorem srtY_lkd {R : List Pt} (hx : R.Pairwise ltX) (hu : (ids R).Nodup) {fr tl : Nat} (h : tl ≤ R.length) {d : Nd} (h1 : d.fr = fr) (h2 : d.til = tl) :
    srtY ((R.take tl).drop fr) = (lkd (ysOf R) d).map (ptAt R) := by
  have hW := ysOf_wf hx hu
  have hsub : ((R.take tl).drop fr).Sublist R := (List.drop_sublist _ _).trans (List.take_sublist _ _)
  refine (srtY_eq (hu.sublist (hsub.map _)) ?_ fun p => ?_).symm
  · refine List.pairwise_map.2 ?_
    exact List.Pairwise.filter _ hW.ysY
  · rw [List.mem_map]
    constructor
    · rintro ⟨i, hi, rfl⟩
      unfold lkd at hi
      rw [List.mem_filter, decide_eq_true_eq, h1, h2] at hi
      have hil := hW.lt hi.1
      rw [ptAt_eq hil, List.mem_drop_iff_getElem]
      refine ⟨i - fr, by rw [List.length_take]; omega, ?_⟩
      rw [List.getElem_take]
      congr 1
      omega
    · intro hp
      rw [List.mem_drop_iff_getElem] at hp
      obtain ⟨i, hi, e⟩ := hp
      rw [List.length_take] at hi
      rw [List.getElem_take] at e
      have hil : fr + i < R.length := by omega
      refine ⟨fr + i, ?_, by rw [ptAt_eq hil]; exact e⟩
      unfold lkd
      rw [List.mem_filter, decide_eq_true_eq, h1, h2]
      refine ⟨(hW.live _).2 ?_, by omega, by omega⟩
      rw [List.getElem?_replicate, if_pos hil]

theorem seg_ids {R : List Pt} (hu : (ids R).Nodup) (fr tl : Nat) : (ids ((R.take tl).drop fr)).Nodup :=
  hu.sublist (((List.drop_sublist _ _).trans (List.take_sublist _ _)).map _)
theorem seg_len {R : List Pt} {fr tl : Nat} (h : tl ≤ R.length) : ((R.take tl).drop fr).length = tl - fr := by rw [List.length_drop, List.length_take]; omega

/-- the row and the marks, ahead of the frame's nodes -/
structure BdR (w : World) (lo fb n : Nat) (rv gv : Value) (l : List Pt) : Prop where
  row : w.ownsRow lo 34 3 rv n (l.flatMap ePt)
  gon : w.ownsRow lo 4 1 gv n ((List.replicate n false).map Value.bool)
  frb : w.heap[fb]? = some (oFrm 0 0 (.slice none 0 0) n)
  lof : lo ≤ fb
theorem BdR.kept {S : Nat → Prop} {w w' : World} {lo fb n : Nat} {rv gv : Value} {l : List Pt} (h : BdR w lo fb n rv gv l) (K : KpS S w w') (hS : ∀ k, k < w.heap.size → S k → ∃ cs t fr, w.heap[k]? = some (.cells cs t fr) ∧ t ≠ 34 ∧ t ≠ 4 ∧ t ≠ 173) : BdR w' lo fb n rv gv l := by
  refine ⟨rowE h.row K fun k h1 h2 => ?_, rowE h.gon K fun k h1 h2 => ?_, blkK K h.frb fun h2 => ?_, h.lof⟩
  · obtain ⟨cs, t, fr, a, b, c, d⟩ := hS k h1 h2; exact ⟨cs, t, fr, a, b⟩
  · obtain ⟨cs, t, fr, a, b, c, d⟩ := hS k h1 h2; exact ⟨cs, t, fr, a, c⟩
  · have hl := (Array.getElem?_eq_some_iff.1 h.frb).1
    obtain ⟨cs, t, fr, a, b, c, d⟩ := hS fb hl h2
    have := a.symm.trans h.frb
    injection this with this
    injection this with _ this _
    exact d this

/-- the lists of the first nodes, as they have been laid -/
structure BdL (w : World) (B : Nat) (R : List Pt) (N : List Nd) (j : Nat) (LY LN : Nat → Value) (lv : Value) : Prop where
  lst : w.ownsRow B 108 2 lv j (lsF LY LN j)
  yss : ∀ k, k < j → w.ownsRow B 2 1 (LY k) (lk N (ysOf R) k).length (((lk N (ysOf R) k).map (yvR R)).map (Value.int .i64))
  nam : ∀ k, k < j → w.ownsRow B 32 1 (LN k) (lk N (ysOf R) k).length (((lk N (ysOf R) k).map (nmR R)).map (Value.int .u32))
  neY : ∀ i k, i < j → k < j → i ≠ k → ∀ g, (LY i).ownBlock = some g → (LY k).ownBlock ≠ some g
  neN : ∀ i k, i < j → k < j → i ≠ k → ∀ g, (LN i).ownBlock = some g → (LN k).ownBlock ≠ some g
theorem BdL.none (w : World) (B : Nat) (R : List Pt) (N : List Nd) (LY LN : Nat → Value) : BdL w B R N 0 LY LN (.slice none 0 0) :=
  ⟨World.ownsRow_nil _ _ _ _, fun k h => absurd h (Nat.not_lt_zero _), fun k h => absurd h (Nat.not_lt_zero _), fun i k h => absurd h (Nat.not_lt_zero _), fun i k h => absurd h (Nat.not_lt_zero _)⟩
section
variable {w w' : World} {B : Nat} {R : List Pt} {N : List Nd} {j : Nat} {LY LN : Nat → Value} {lv : Value}
theorem BdL.kept {S : Nat → Prop} (h : BdL w B R N j LY LN lv) (K : KpS S w w') (hS : ∀ b, B ≤ b → b < w.heap.size → ¬ S b) : BdL w' B R N j LY LN lv :=
  ⟨rowK h.lst K fun g e => hS g (h.lst.lt g e).1 (h.lst.lt g e).2, fun k hk => rowK (h.yss k hk) K fun g e => hS g ((h.yss k hk).lt g e).1 ((h.yss k hk).lt g e).2, fun k hk => rowK (h.nam k hk) K fun g e => hS g ((h.nam k hk).lt g e).1 ((h.nam k hk).lt g e).2, h.neY, h.neN⟩
theorem lsF_cut (LY LN : Nat → Value) (j : Nat) (vy vn : Value) : lsF (upd LY j vy) (upd LN j vn) (j + 1) = lsF LY LN j ++ [vy, vn] := by
  unfold lsF
  rw [List.range_succ, List.flatMap_append]
  congr 1
  · rw [List.flatMap_def, List.flatMap_def]
    congr 1
    refine List.map_congr_left fun k hk => ?_
    have : k ≠ j := by have := List.mem_range.1 hk; omega
    rw [upd_ne this, upd_ne this]
  · simp [upd_same]
theorem BdL.more {wY w0 : World} (hO : BdL wY B R N j LY LN lv) (h : BdL w0 B R N j LY LN lv) {M : Nat} (hM : wY.heap.size ≤ M) (hB : B ≤ M) {vy vn lv' : Value} (K : KpS (fun k => lv.ownBlock = some k) w0 w')
    (hl : w'.ownsRow B 108 2 lv' (j + 1) (lsF LY LN j ++ [vy, vn]))
    (hy : w'.ownsRow M 2 1 vy (lk N (ysOf R) j).length (((lk N (ysOf R) j).map (yvR R)).map (Value.int .i64)))
    (hn : w'.ownsRow M 32 1 vn (lk N (ysOf R) j).length (((lk N (ysOf R) j).map (nmR R)).map (Value.int .u32))) : BdL w' B R N (j + 1) (upd LY j vy) (upd LN j vn) lv' := by
  have oldY : ∀ k, k < j → w'.ownsRow B 2 1 (LY k) (lk N (ysOf R) k).length (((lk N (ysOf R) k).map (yvR R)).map (Value.int .i64)) := fun k hk => rowK (h.yss k hk) K (fun g e h2 => rows_ne h.lst (h.yss k hk) (by decide) g h2 e)
  have oldN : ∀ k, k < j → w'.ownsRow B 32 1 (LN k) (lk N (ysOf R) k).length (((lk N (ysOf R) k).map (nmR R)).map (Value.int .u32)) := fun k hk => rowK (h.nam k hk) K (fun g e h2 => rows_ne h.lst (h.nam k hk) (by decide) g h2 e)
  have newY : ∀ k, k < j → ∀ g, (LY k).ownBlock = some g → vy.ownBlock ≠ some g := fun k hk g e e2 => by
    have := ((hO.yss k hk).lt g e).2
    have := (hy.lt g e2).1
    omega
  have newN : ∀ k, k < j → ∀ g, (LN k).ownBlock = some g → vn.ownBlock ≠ some g := fun k hk g e e2 => by
    have := ((hO.nam k hk).lt g e).2
    have := (hn.lt g e2).1
    omega
  refine ⟨by rw [lsF_cut]; exact hl, fun k hk => ?_, fun k hk => ?_, fun i k hi hk hik g e1 e2 => ?_, fun i k hi hk hik g e1 e2 => ?_⟩
  · by_cases e : k = j
    · subst e; rw [upd_same]; exact rowMono hy hB
    · rw [upd_ne e]; exact oldY k (by omega)
  · by_cases e : k = j
    · subst e; rw [upd_same]; exact rowMono hn hB
    · rw [upd_ne e]; exact oldN k (by omega)
  · by_cases e : i = j
    · subst e
      rw [upd_same] at e1
      rw [upd_ne (Ne.symm hik)] at e2
      exact newY k (by omega) g e2 e1
    · rw [upd_ne e] at e1
      by_cases e' : k = j
      · subst e'
        rw [upd_same] at e2
        exact newY i (by omega) g e1 e2
      · rw [upd_ne e'] at e2
        exact h.neY i k (by omega) (by omega) hik g e1 e2
  · by_cases e : i = j
    · subst e
      rw [upd_same] at e1
      rw [upd_ne (Ne.symm hik)] at e2
      exact newN k (by omega) g e2 e1
    · rw [upd_ne e] at e1
      by_cases e' : k = j
      · subst e'
        rw [upd_same] at e2
        exact newN i (by omega) g e1 e2
      · rw [upd_ne e'] at e2
        exact h.neN i k (by omega) (by omega) hik g e1 e2
end
/-- both headers of a list are written -/
theorem two_set {w : World} {B yb n : Nat} {vy vn vy' vn' : Value} {xs ys : List Value} (h : w.heap[yb]? = some (.cells #[vy, vn] 108 (0, 0))) (h1 : w.ownsRow B 2 1 vy' n xs) (h2 : w.ownsRow B 32 1 vn' n ys) :
    ((w.setCell ⟨yb, 0, none⟩ vy').setCell ⟨yb, 1, none⟩ vn').heap[yb]? = some (.cells #[vy', vn'] 108 (0, 0)) ∧ ((w.setCell ⟨yb, 0, none⟩ vy').setCell ⟨yb, 1, none⟩ vn').ownsRow B 2 1 vy' n xs ∧ ((w.setCell ⟨yb, 0, none⟩ vy').setCell ⟨yb, 1, none⟩ vn').ownsRow B 32 1 vn' n ys ∧ KpS (fun k => k = yb) w ((w.setCell ⟨yb, 0, none⟩ vy').setCell ⟨yb, 1, none⟩ vn') := by
  have K : KpS (fun k => k = yb) w ((w.setCell ⟨yb, 0, none⟩ vy').setCell ⟨yb, 1, none⟩ vn') := ((KpS.refl (fun k => k = yb) w).set (a := ⟨yb, 0, none⟩) _ (.inl rfl)).set (a := ⟨yb, 1, none⟩) _ (.inl rfl)
  refine ⟨heap_setCell_same _ yb 1 _ _ _ (heap_setCell_same w yb 0 _ _ _ h), rowK h1 K (fun g e h9 => row_ne h1 h (by decide) g e h9.symm), rowK h2 K (fun g e h9 => row_ne h2 h (by decide) g e h9.symm), K⟩
end Go.Proofs.YthpgkldpbbajfaaGreat
