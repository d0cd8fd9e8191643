/- Several texts in one: CsM, Bsx, Del, Drp1, LiftP, LiftB, Obj, Rf10, Hds. -/
import Derived.Test.YtggfdlanobndjaaGreatQ5
import Derived.Test.YtggfdlanobndjaaGreatQ4
import Derived.Test.YtggfdlanobndjaaGreatQ3
import Derived.Deep.CutBlock
import Derived.Deep.CutRange
import Derived.Test.YtggfdlanobndjaaGreatShelf2
import Derived.Test.YtggfdlanobndjaaGreatQ2
import Derived.Deep.LoopGhost
import Derived.Deep.Slices
import Derived.Deep.Fields
import Derived.ChangeSame
import Derived.Lib.SmallJoins
import Derived.Deep.Grids
import Derived.OpenShut

/- A cascade while a point is dropped: each row by its own contents. No function of the program is walked here. -/
namespace Go.Proofs.YtggfdlanobndjaaGreat
open Go.RowKit Go.Sort Go.Shelf Go.Lib Go.Maps
set_option linter.unusedSimpArgs false
set_option linter.unusedVariables false

def updA {α : Type} (f : Nat → α) (k : Nat) (v : α) : Nat → α := fun j => if j = k then v else f j
theorem updA_same {α : Type} (f : Nat → α) (k : Nat) (v : α) : updA f k v k = v := by simp [updA]
theorem updA_ne {α : Type} {f : Nat → α} {k j : Nat} {v : α} (h : j ≠ k) : updA f k v j = f j := by simp [updA, h]

/-- nc: whose names a node has; lc: its counts -/
structure CscM (w : World) (lo hi tb fb : Nat) (R : List Pt) (gone : List Bool) (cnt : Nat) (yy : List Nat) (nc : Nat → List Nat) (lc : Nat → List Int) (V : CscV) : Prop where
  blk : w.heap[tb]? = some (cscB V.rv V.xv V.gv fb V.nv V.lv V.yv cnt)
  tbr : lo ≤ tb ∧ tb < hi ∧ lo ≤ fb ∧ fb < hi ∧ hi ≤ w.heap.size
  row : w.ownsRow lo 34 3 V.rv R.length (R.flatMap ePt)
  xs : w.ownsRow lo 2 1 V.xv R.length ((xsR R).map (Value.int .i64))
  gon : w.ownsRow lo 4 1 V.gv R.length (gone.map Value.bool)
  frm : FrmAt w lo fb R.length V.fv
  nod : w.ownsRow lo 119 7 V.nv (nds R.length).length ((nds R.length).flatMap eNd)
  lst : w.ownsRow lo 112 2 V.lv (nds R.length).length (lsF V.LN V.LL (nds R.length).length)
  ys : w.ownsRow lo 2 1 V.yv yy.length ((ysR R yy).map (Value.int .i64))
  nam : ∀ k, k < (nds R.length).length → w.ownsRow lo 32 1 (V.LN k) (nc k).length (((nc k).map (nmR R)).map (Value.int .u32))
  lef : ∀ l r s, FT.At (nds R.length) (.node l r) s → w.ownsRow lo 3 1 (V.LL ((FT.node l r).root s)) (lc ((FT.node l r).root s)).length ((lc ((FT.node l r).root s)).map (Value.int .i64))
  sli : ∀ k, k < (nds R.length).length → ∃ a m c, V.LL k = .slice a m c
  top : ∀ v, v = V.rv ∨ v = V.xv ∨ v = V.gv ∨ v = V.nv ∨ v = V.lv ∨ v = V.yv ∨ v = V.fv → ∀ g, v.ownBlock = some g → g < hi
  topL : ∀ k, k < (nds R.length).length → (∀ g, (V.LN k).ownBlock = some g → g < hi) ∧ ∀ g, (V.LL k).ownBlock = some g → g < hi
  neX : ∀ g, V.xv.ownBlock = some g → V.yv.ownBlock ≠ some g
  neN : ∀ i k, i < (nds R.length).length → k < (nds R.length).length → i ≠ k → ∀ g, (V.LN i).ownBlock = some g → (V.LN k).ownBlock ≠ some g
  neL : ∀ i k, i < (nds R.length).length → k < (nds R.length).length → i ≠ k → ∀ g, (V.LL i).ownBlock = some g → (V.LL k).ownBlock ≠ some g

/-- a row of kind e is kept when one block of another kind is written -/
theorem rowT {w w' : World} {g base : Nat} {cs : Array Value} {t : TypeId} {fr : Nat × Nat} {e : TypeId} {sz : Nat} {v : Value} {n : Nat} {xs : List Value} (h : w.ownsRow base e sz v n xs) (K : KpS (fun k => k = g) w w') (hg : w.heap[g]? = some (.cells cs t fr)) (ht : t ≠ e) : w'.ownsRow base e sz v n xs :=
  rowE h K fun k h1 h2 => by subst h2; exact ⟨_, _, _, hg, ht⟩
theorem rowO {w w' : World} {g base : Nat} {e : TypeId} {sz : Nat} {v : Value} {n : Nat} {xs : List Value} (h : w.ownsRow base e sz v n xs) (K : KpS (fun k => k = g) w w') (hg : v.ownBlock ≠ some g) : w'.ownsRow base e sz v n xs :=
  rowK h K fun k h1 h2 => by subst h2; exact hg h1
theorem frmT {w w' : World} {g base fb n : Nat} {fv : Value} {cs : Array Value} {t : TypeId} {fr : Nat × Nat} (h : FrmAt w base fb n fv) (K : KpS (fun k => k = g) w w') (hg : w.heap[g]? = some (.cells cs t fr)) (h1 : t ≠ 149) (h2 : t ≠ 119) : FrmAt w' base fb n fv :=
  ⟨blkK K h.blk fun e => by subst e; have h9 := hg.symm.trans h.blk; injection h9 with h9; injection h9 with _ h9 _; exact h1 h9, rowT h.row K hg h2⟩
theorem blkT {w w' : World} {g b : Nat} {cs cs' : Array Value} {t t' : TypeId} {fr fr' : Nat × Nat} (h : w.heap[b]? = some (.cells cs' t' fr')) (K : KpS (fun k => k = g) w w') (hg : w.heap[g]? = some (.cells cs t fr)) (h1 : t ≠ t') : w'.heap[b]? = some (.cells cs' t' fr') :=
  blkK K h fun e => by subst e; have h9 := hg.symm.trans h; injection h9 with h9; injection h9 with _ h9 _; exact h1 h9

theorem ownBlk {w : World} {base g n c : Nat} {e : TypeId} {sz m : Nat} {xs : List Value} (h : w.ownsRow base e sz (.slice (some ⟨g, 0, none⟩) n c) m xs) : ∃ cs fr, w.heap[g]? = some (.cells cs e fr) := by
  rcases h.2 with ⟨e9, -⟩ | ⟨g', cap, cur, e9, -, hh, -⟩
  · cases e9
  · injection e9 with e9
    injection e9 with e9
    injection e9 with e9
    subst e9
    exact ⟨_, _, hh⟩

section
variable {w w' : World} {lo hi tb fb : Nat} {R : List Pt} {gone : List Bool} {cnt : Nat} {yy : List Nat} {nc : Nat → List Nat} {lc : Nat → List Int} {V : CscV}

/-- what is fresh is no concern of the tree -/
theorem CscM.kept {S : Nat → Prop} (h : CscM w lo hi tb fb R gone cnt yy nc lc V) (K : KpS S w w') (hS : ∀ k, lo ≤ k → k < hi → ¬ S k) : CscM w' lo hi tb fb R gone cnt yy nc lc V := by
  have ht := h.top
  have hr : ∀ {e : TypeId} {sz : Nat} {v : Value} {n : Nat} {xs : List Value}, w.ownsRow lo e sz v n xs → (∀ g, v.ownBlock = some g → g < hi) → w'.ownsRow lo e sz v n xs := fun hr hv => rowK hr K fun g e => hS g (hr.lt g e).1 (hv g e)
  exact ⟨blkK K h.blk (hS tb h.tbr.1 h.tbr.2.1), ⟨h.tbr.1, h.tbr.2.1, h.tbr.2.2.1, h.tbr.2.2.2.1, Nat.le_trans h.tbr.2.2.2.2 K.size⟩,
    hr h.row (ht _ (by simp)), hr h.xs (ht _ (by simp)), hr h.gon (ht _ (by simp)),
    ⟨blkK K h.frm.blk (hS fb h.tbr.2.2.1 h.tbr.2.2.2.1), hr h.frm.row (ht _ (by simp))⟩, hr h.nod (ht _ (by simp)), hr h.lst (ht _ (by simp)), hr h.ys (ht _ (by simp)),
    fun k hk => hr (h.nam k hk) (h.topL k hk).1, fun l r s ha => hr (h.lef l r s ha) (h.topL _ ha.lt).2, h.sli, h.top, h.topL, h.neX, h.neN, h.neL⟩
theorem CscM.below {B : Nat} (h : CscM w lo hi tb fb R gone cnt yy nc lc V) (hb : Below B w w') (hB : hi ≤ B) : CscM w' lo hi tb fb R gone cnt yy nc lc V :=
  h.kept (S := fun k => hi ≤ k) ⟨hb.os, hb.tape, hb.output, hb.size, fun k hk hn => hb.block k (by omega)⟩ fun k h1 h2 h3 => by omega

/-- the count is set -/
theorem CscM.setCnt (h : CscM w lo hi tb fb R gone cnt yy nc lc V) (m : Nat) : CscM (w.setCell ⟨tb, 7, none⟩ (.int .i64 m)) lo hi tb fb R gone m yy nc lc V := by
  have K : KpS (fun k => k = tb) w (w.setCell ⟨tb, 7, none⟩ (.int .i64 m)) := (KpS.refl (fun k => k = tb) w).set (a := ⟨tb, 7, none⟩) _ (.inl rfl)
  have hg := h.blk
  exact ⟨heap_setCell_same w tb 7 _ _ _ h.blk, by simpa using h.tbr, rowT h.row K hg (by decide), rowT h.xs K hg (by decide), rowT h.gon K hg (by decide), frmT h.frm K hg (by decide) (by decide), rowT h.nod K hg (by decide), rowT h.lst K hg (by decide), rowT h.ys K hg (by decide),
    fun k hk => rowT (h.nam k hk) K hg (by decide), fun l r s ha => rowT (h.lef l r s ha) K hg (by decide), h.sli, h.top, h.topL, h.neX, h.neN, h.neL⟩

/-- one is marked as gone -/
theorem CscM.setGone (h : CscM w lo hi tb fb R gone cnt yy nc lc V) {g n c : Nat} (hv : V.gv = .slice (some ⟨g, 0, none⟩) n c) (i : Nat) : CscM (w.setCell ⟨g, i, none⟩ (.bool true)) lo hi tb fb R (gone.set i true) cnt yy nc lc V := by
  have K : KpS (fun k => k = g) w (w.setCell ⟨g, i, none⟩ (.bool true)) := (KpS.refl (fun k => k = g) w).set (a := ⟨g, i, none⟩) _ (.inl rfl)
  have hgo := h.gon
  rw [hv] at hgo
  obtain ⟨cs, fr, hg⟩ := ownBlk hgo
  refine ⟨blkT h.blk K hg (by decide), by simpa using h.tbr, rowT h.row K hg (by decide), rowT h.xs K hg (by decide), ?_, frmT h.frm K hg (by decide) (by decide), rowT h.nod K hg (by decide), rowT h.lst K hg (by decide), rowT h.ys K hg (by decide),
    fun k hk => rowT (h.nam k hk) K hg (by decide), fun l r s ha => rowT (h.lef l r s ha) K hg (by decide), h.sli, h.top, h.topL, h.neX, h.neN, h.neL⟩
  rw [hv, List.map_set]
  have hn : n = R.length := by
    rcases hgo.2 with ⟨e9, -⟩ | ⟨g', cap, cur, e9, -⟩
    · cases e9
    · injection e9 with _ e9 _
  subst hn
  exact (hgo.stored i (.bool true)).1

/-- the root's Ys are written anew -/
theorem CscM.setYs (h : CscM w lo hi tb fb R gone cnt yy nc lc V) {g n c n' : Nat} (hv : V.yv = .slice (some ⟨g, 0, none⟩) n c) (K : KpS (fun k => k = g) w w') {yy' : List Nat} (hrow : w'.ownsRow lo 2 1 (.slice (some ⟨g, 0, none⟩) n' c) yy'.length ((ysR R yy').map (Value.int .i64))) :
    CscM (w'.setCell ⟨tb, 6, none⟩ (.slice (some ⟨g, 0, none⟩) n' c)) lo hi tb fb R gone cnt yy' nc lc { V with yv := .slice (some ⟨g, 0, none⟩) n' c } := by
  have hys := h.ys
  rw [hv] at hys
  obtain ⟨cs, fr, hg⟩ := ownBlk hys
  have ht := blkT h.blk K hg (by decide)
  have K2 : KpS (fun k => k = tb) w' (w'.setCell ⟨tb, 6, none⟩ (.slice (some ⟨g, 0, none⟩) n' c)) := (KpS.refl (fun k => k = tb) w').set (a := ⟨tb, 6, none⟩) _ (.inl rfl)
  have hx := h.xs
  have hne : V.xv.ownBlock ≠ some g := fun e => h.neX g e (by rw [hv]; rfl)
  have two : ∀ {e : TypeId} {sz : Nat} {v : Value} {m : Nat} {xs : List Value}, w.ownsRow lo e sz v m xs → 2 ≠ e → 110 ≠ e → (w'.setCell ⟨tb, 6, none⟩ (.slice (some ⟨g, 0, none⟩) n' c)).ownsRow lo e sz v m xs := fun hr h1 h2 => rowT (rowT hr K hg h1) K2 ht h2
  refine ⟨heap_setCell_same w' tb 6 _ _ _ ht, ?_, two h.row (by decide) (by decide), rowT (rowO hx K hne) K2 ht (by decide), two h.gon (by decide) (by decide), frmT (frmT h.frm K hg (by decide) (by decide)) K2 ht (by decide) (by decide), two h.nod (by decide) (by decide), two h.lst (by decide) (by decide), rowT hrow K2 ht (by decide),
    fun k hk => two (h.nam k hk) (by decide) (by decide), fun l r s ha => two (h.lef l r s ha) (by decide) (by decide), h.sli, ?_, h.topL, ?_, h.neN, h.neL⟩
  · have := h.tbr; have := K.size; simp; omega
  · intro v hv2 g2 hg2
    rcases hv2 with e | e | e | e | e | e | e
    · exact h.top v (.inl e) g2 hg2
    · exact h.top v (.inr (.inl e)) g2 hg2
    · exact h.top v (.inr (.inr (.inl e))) g2 hg2
    · exact h.top v (.inr (.inr (.inr (.inl e)))) g2 hg2
    · exact h.top v (.inr (.inr (.inr (.inr (.inl e))))) g2 hg2
    · exact h.top V.yv (by simp) g2 (by rw [hv]; rw [e] at hg2; exact hg2)
    · exact h.top v (.inr (.inr (.inr (.inr (.inr (.inr e)))))) g2 hg2
  · intro g2 h1 h2
    exact h.neX g2 h1 (by rw [hv]; exact h2)

/-- a node's names are written anew -/
theorem CscM.setNam (h : CscM w lo hi tb fb R gone cnt yy nc lc V) {k g n c n' gl nl cl : Nat} (hk : k < (nds R.length).length) (hv : V.LN k = .slice (some ⟨g, 0, none⟩) n c) (hl : V.lv = .slice (some ⟨gl, 0, none⟩) nl cl) (K : KpS (fun k => k = g) w w') {L' : List Nat} (hrow : w'.ownsRow lo 32 1 (.slice (some ⟨g, 0, none⟩) n' c) L'.length ((L'.map (nmR R)).map (Value.int .u32))) :
    CscM (w'.setCell ⟨gl, k * 2, none⟩ (.slice (some ⟨g, 0, none⟩) n' c)) lo hi tb fb R gone cnt yy (updA nc k L') lc { V with LN := upd V.LN k (.slice (some ⟨g, 0, none⟩) n' c) } := by
  have hna := h.nam k hk
  rw [hv] at hna
  obtain ⟨cs, fr, hg⟩ := ownBlk hna
  have hls := h.lst
  rw [hl] at hls
  have hnl : nl = (nds R.length).length := by
    rcases hls.2 with ⟨e9, -⟩ | ⟨g', cap, cur, e9, -⟩
    · cases e9
    · injection e9 with _ e9 _
  subst hnl
  have hls2 := rowT hls K hg (by decide)
  obtain ⟨cs2, fr2, hg2⟩ := ownBlk hls2
  have K2 : KpS (fun k => k = gl) w' (w'.setCell ⟨gl, k * 2, none⟩ (.slice (some ⟨g, 0, none⟩) n' c)) := (KpS.refl (fun k => k = gl) w').set (a := ⟨gl, k * 2, none⟩) _ (.inl rfl)
  have two : ∀ {e : TypeId} {sz : Nat} {v : Value} {m : Nat} {xs : List Value}, w.ownsRow lo e sz v m xs → 32 ≠ e → 112 ≠ e → (w'.setCell ⟨gl, k * 2, none⟩ (.slice (some ⟨g, 0, none⟩) n' c)).ownsRow lo e sz v m xs := fun hr h1 h2 => rowT (rowT hr K hg h1) K2 hg2 h2
  refine ⟨blkT (blkT h.blk K hg (by decide)) K2 hg2 (by decide), ?_, two h.row (by decide) (by decide), two h.xs (by decide) (by decide), two h.gon (by decide) (by decide), frmT (frmT h.frm K hg (by decide) (by decide)) K2 hg2 (by decide) (by decide), two h.nod (by decide) (by decide), ?_, two h.ys (by decide) (by decide),
    fun k' hk' => ?_, fun l r s ha => two (h.lef l r s ha) (by decide) (by decide), h.sli, h.top, fun k' hk' => ⟨fun g' hg' => ?_, (h.topL k' hk').2⟩, h.neX, fun i i' h1 h2 h3 g' h4 h5 => ?_, h.neL⟩
  · have := h.tbr; have := K.size; simp; omega
  · show World.ownsRow _ _ _ _ V.lv _ _
    rw [hl]
    exact LsRow.setN hls2 hk _
  · by_cases e : k' = k
    · subst e
      rw [updA_same]
      show World.ownsRow _ _ _ _ (upd V.LN k' _ k') _ _
      rw [upd_same]
      exact rowT hrow K2 hg2 (by decide)
    · rw [updA_ne e]
      show World.ownsRow _ _ _ _ (upd V.LN k _ k') _ _
      rw [upd_ne e]
      exact rowT (rowO (h.nam k' hk') K (fun h9 => h.neN k k' hk hk' (Ne.symm e) g (by rw [hv]; rfl) h9)) K2 hg2 (by decide)
  · by_cases e : k' = k
    · subst e
      have hg' : (upd V.LN k' (.slice (some ⟨g, 0, none⟩) n' c) k').ownBlock = some g' := hg'
      rw [upd_same] at hg'
      exact (h.topL k' hk').1 g' (by rw [hv]; exact hg')
    · have hg' : (upd V.LN k (.slice (some ⟨g, 0, none⟩) n' c) k').ownBlock = some g' := hg'
      rw [upd_ne e] at hg'
      exact (h.topL k' hk').1 g' hg'
  · have own : ∀ i, (upd V.LN k (.slice (some ⟨g, 0, none⟩) n' c) i).ownBlock = (V.LN i).ownBlock := fun i => by
      by_cases e : i = k
      · subst e; rw [upd_same, hv]; rfl
      · rw [upd_ne e]
    have h4 : (upd V.LN k (.slice (some ⟨g, 0, none⟩) n' c) i).ownBlock = some g' := h4
    have h5 : (upd V.LN k (.slice (some ⟨g, 0, none⟩) n' c) i').ownBlock = some g' := h5
    rw [own] at h4 h5
    exact h.neN i i' h1 h2 h3 g' h4 h5

/-- a node's counts are written anew; its header too -/
theorem CscM.setLef (h : CscM w lo hi tb fb R gone cnt yy nc lc V) {l0 r0 : FT} {s0 k g n c n' gl nl cl : Nat} (ha0 : FT.At (nds R.length) (.node l0 r0) s0) (hk0 : (FT.node l0 r0).root s0 = k) (hv : V.LL k = .slice (some ⟨g, 0, none⟩) n c) (hl : V.lv = .slice (some ⟨gl, 0, none⟩) nl cl) (K : KpS (fun k => k = g) w w') {L' : List Int} (hrow : w'.ownsRow lo 3 1 (.slice (some ⟨g, 0, none⟩) n' c) L'.length (L'.map (Value.int .i64))) :
    CscM (w'.setCell ⟨gl, k * 2 + 1, none⟩ (.slice (some ⟨g, 0, none⟩) n' c)) lo hi tb fb R gone cnt yy nc (updA lc k L') { V with LL := upd V.LL k (.slice (some ⟨g, 0, none⟩) n' c) } := by
  have hk : k < (nds R.length).length := hk0 ▸ ha0.lt
  have hna := h.lef l0 r0 s0 ha0
  rw [hk0, hv] at hna
  obtain ⟨cs, fr, hg⟩ := ownBlk hna
  have hls := h.lst
  rw [hl] at hls
  have hnl : nl = (nds R.length).length := by
    rcases hls.2 with ⟨e9, -⟩ | ⟨g', cap, cur, e9, -⟩
    · cases e9
    · injection e9 with _ e9 _
  subst hnl
  have hls2 := rowT hls K hg (by decide)
  obtain ⟨cs2, fr2, hg2⟩ := ownBlk hls2
  have K2 : KpS (fun k => k = gl) w' (w'.setCell ⟨gl, k * 2 + 1, none⟩ (.slice (some ⟨g, 0, none⟩) n' c)) := (KpS.refl (fun k => k = gl) w').set (a := ⟨gl, k * 2 + 1, none⟩) _ (.inl rfl)
  have two : ∀ {e : TypeId} {sz : Nat} {v : Value} {m : Nat} {xs : List Value}, w.ownsRow lo e sz v m xs → 3 ≠ e → 112 ≠ e → (w'.setCell ⟨gl, k * 2 + 1, none⟩ (.slice (some ⟨g, 0, none⟩) n' c)).ownsRow lo e sz v m xs := fun hr h1 h2 => rowT (rowT hr K hg h1) K2 hg2 h2
  have own : ∀ i, (upd V.LL k (.slice (some ⟨g, 0, none⟩) n' c) i).ownBlock = (V.LL i).ownBlock := fun i => by
    by_cases e : i = k
    · subst e; rw [upd_same, hv]; rfl
    · rw [upd_ne e]
  refine ⟨blkT (blkT h.blk K hg (by decide)) K2 hg2 (by decide), ?_, two h.row (by decide) (by decide), two h.xs (by decide) (by decide), two h.gon (by decide) (by decide), frmT (frmT h.frm K hg (by decide) (by decide)) K2 hg2 (by decide) (by decide), two h.nod (by decide) (by decide), ?_, two h.ys (by decide) (by decide),
    fun k' hk' => two (h.nam k' hk') (by decide) (by decide), fun l r s ha => ?_, fun k' hk' => ?_, h.top, fun k' hk' => ⟨(h.topL k' hk').1, fun g' hg' => ?_⟩, h.neX, h.neN, fun i i' h1 h2 h3 g' h4 h5 => ?_⟩
  · have := h.tbr; have := K.size; simp; omega
  · show World.ownsRow _ _ _ _ V.lv _ _
    rw [hl]
    exact LsRow.setL hls2 hk _
  · have hlt := ha.lt
    generalize hkk : (FT.node l r).root s = k' at *
    by_cases e : k' = k
    · subst e
      rw [updA_same]
      show World.ownsRow _ _ _ _ (upd V.LL k' _ k') _ _
      rw [upd_same]
      exact rowT hrow K2 hg2 (by decide)
    · rw [updA_ne e]
      show World.ownsRow _ _ _ _ (upd V.LL k _ k') _ _
      rw [upd_ne e]
      have h9 := h.lef l r s ha
      rw [hkk] at h9
      exact rowT (rowO h9 K (fun h9 => h.neL k k' hk hlt (Ne.symm e) g (by rw [hv]; rfl) h9)) K2 hg2 (by decide)
  · show ∃ a m c', upd V.LL k _ k' = _
    by_cases e : k' = k
    · subst e; rw [upd_same]; exact ⟨_, _, _, rfl⟩
    · rw [upd_ne e]; exact h.sli k' hk'
  · have hg' : (upd V.LL k (.slice (some ⟨g, 0, none⟩) n' c) k').ownBlock = some g' := hg'
    rw [own] at hg'
    exact (h.topL k' hk').2 g' hg'
  · have h4 : (upd V.LL k (.slice (some ⟨g, 0, none⟩) n' c) i).ownBlock = some g' := h4
    have h5 : (upd V.LL k (.slice (some ⟨g, 0, none⟩) n' c) i').ownBlock = some g' := h5
    rw [own] at h4 h5
    exact h.neL i i' h1 h2 h3 g' h4 h5

/-- one of a node's counts is set -/
theorem CscM.setOne (h : CscM w lo hi tb fb R gone cnt yy nc lc V) {l0 r0 : FT} {s0 k g c j : Nat} (ha0 : FT.At (nds R.length) (.node l0 r0) s0) (hk0 : (FT.node l0 r0).root s0 = k) (hv : V.LL k = .slice (some ⟨g, 0, none⟩) (lc k).length c) (x : Int) :
    CscM (w.setCell ⟨g, j, none⟩ (.int .i64 x)) lo hi tb fb R gone cnt yy nc (updA lc k ((lc k).set j x)) V := by
  have hk : k < (nds R.length).length := hk0 ▸ ha0.lt
  have hna := h.lef l0 r0 s0 ha0
  rw [hk0, hv] at hna
  obtain ⟨cs, fr, hg⟩ := ownBlk hna
  have K : KpS (fun k => k = g) w (w.setCell ⟨g, j, none⟩ (.int .i64 x)) := (KpS.refl (fun k => k = g) w).set (a := ⟨g, j, none⟩) _ (.inl rfl)
  refine ⟨blkT h.blk K hg (by decide), by simpa using h.tbr, rowT h.row K hg (by decide), rowT h.xs K hg (by decide), rowT h.gon K hg (by decide), frmT h.frm K hg (by decide) (by decide), rowT h.nod K hg (by decide), rowT h.lst K hg (by decide), rowT h.ys K hg (by decide),
    fun k' hk' => rowT (h.nam k' hk') K hg (by decide), fun l r s ha => ?_, h.sli, h.top, h.topL, h.neX, h.neN, h.neL⟩
  have hlt := ha.lt
  have h9 := h.lef l r s ha
  generalize hkk : (FT.node l r).root s = k' at *
  by_cases e : k' = k
  · subst e
    rw [updA_same, hv, List.length_set, List.map_set]
    exact (hna.stored j (.int .i64 x)).1
  · rw [updA_ne e]
    exact rowO h9 K (fun h9 => h.neL k k' hk hlt (Ne.symm e) g (by rw [hv]; rfl) h9)
end
end Go.Proofs.YtggfdlanobndjaaGreat

/- slices.BinarySearchFunc(row, p, item.ByX): where a point stands. -/
namespace Go.Proofs.YtggfdlanobndjaaGreat
open Go.RowKit Go.Maps
attribute [local irreducible] wpQuiet
set_option linter.unusedSimpArgs false
set_option linter.unusedVariables false

def BsxP (l : List Pt) (p : Pt) (w : World) (e : Ending) (w' : World) : Prop :=
  ∃ k : Nat, e = .returned (.tuple #[.int .i64 k, .bool (decide (∃ h : k < l.length, ordX l[k] p = 0))]) ∧ k ≤ l.length ∧ (∀ t (h : t < l.length), t < k → ordX l[t] p < 0) ∧ (∀ t (h : t < l.length), k ≤ t → ¬ ordX l[t] p < 0) ∧ Below w.heap.size w w'

set_option maxRecDepth 100000 in
set_option maxHeartbeats 2000000 in
theorem bsfX (a : Option Addr) (l : List Pt) (n cp : Nat) (p : Pt) (W : World) (hn : l.length = n) (hl : n ≤ 1000000) (hr : RdK ePt 3 W a l) (hs : l.Pairwise ltX) :
    Calls Tryz.prog 53 #[.slice a n cp, vPt p.1 p.2.1 p.2.2, .func (.func 45) #[] #[]] W (BsxP l p W) := by
  subst hn
  obtain ⟨px, py, pi⟩ := p
  have HR := Lib.hid hr
  have HS := Lib.hid hs
  have HC := Lib.hid (fun (q : Pt) W => (iByX q (px, py, pi) W).mono (fun e w' (h : e = .returned (.int .i64 (ordX q (px, py, pi))) ∧ Grw W w') => (⟨h.1, h.2.below (Nat.le_refl _)⟩ : e = .returned (.int .i64 (ordX q (px, py, pi))) ∧ Below W.heap.size W w')))
  have mono1 : Hid (∀ t i (h1 : t < l.length) (h2 : i < l.length), t ≤ i → ordX l[i] (px, py, pi) < 0 → ordX l[t] (px, py, pi) < 0) := fun t i h1 h2 h3 h4 => by
    by_cases e : t = i
    · subst e; exact h4
    · have h5 := List.pairwise_iff_getElem.1 HS.out t i h1 h2 (by omega)
      rw [ordX_lt] at h4 ⊢
      exact ltX_trans h5 h4
  clear hr hs
  go_enter Tryz.func53, Tryz.ntmps53
  go_wp2_with fail
  have hb0 : Below W.heap.size W (W.alloc (.cells #[.int .i64 px, .int .i64 py, .int .u32 pi] 34)) := (Below.refl _ _).alloc (Nat.le_refl _) _
  have HX0 : Hid ((W.alloc (.cells #[.int .i64 px, .int .i64 py, .int .u32 pi] 34)).heap[W.heap.size]? = some (.cells #[.int .i64 px, .int .i64 py, .int .u32 pi] 34 (0, 0))) := lit0 W _
  have hs0 : W.heap.size < (W.alloc (.cells #[.int .i64 px, .int .i64 py, .int .u32 pi] 34)).heap.size := by simp
  generalize (W.alloc (.cells #[.int .i64 px, .int .i64 py, .int .u32 pi] 34)) = W0 at *
  have HB0 := Lib.hid hb0
  clear hb0
  go_loopw [9, 10] (fun iv jv wr => ∃ i j : Nat, iv = .int .i64 i ∧ jv = .int .i64 j ∧ i ≤ j ∧ j ≤ l.length ∧ Hid (∀ t (h : t < l.length), t < i → ordX l[t] (px, py, pi) < 0) ∧ Hid (∀ t (h : t < l.length), j ≤ t → ¬ ordX l[t] (px, py, pi) < 0) ∧ Hid (Below W0.heap.size W0 wr))
    (fun iv jv _ => (intOf jv).toNat - (intOf iv).toNat)
  case atStart => exact ⟨0, l.length, rfl, rfl, Nat.zero_le _, Nat.le_refl _, fun t h h2 => absurd h2 (Nat.not_lt_zero _), fun t h h2 => absurd h (by omega), Below.refl _ _⟩
  case round =>
    obtain ⟨i, j, rfl, rfl, hij, hj, H1, H2, HB⟩ := hrel
    have hbw : Below W.heap.size W wr := HB0.out.trans (HB.out.mono HB0.out.size)
    have hpc := (HB.out.block _ hs0).trans HX0.out
    have k0 := cell_belowW (w := wr) (ad := ⟨W.heap.size, 0, none⟩) (v := .int .i64 px) (by simp [World.cell?, hpc])
    have k1 := cell_belowW (w := wr) (ad := ⟨W.heap.size, 1, none⟩) (v := .int .i64 py) (by simp [World.cell?, hpc])
    have k2 := cell_belowW (w := wr) (ad := ⟨W.heap.size, 2, none⟩) (v := .int .u32 pi) (by simp [World.cell?, hpc])
    by_cases hlt : i < j
    · obtain ⟨m, hm⟩ : ∃ m, m = (i + j) / 2 := ⟨_, rfl⟩
      have hmi : ((i : Int) + (j : Int)) / 2 = (m : Int) := by omega
      have hmj : m < l.length := by omega
      have hmij : i ≤ m ∧ m < j := by omega
      clear hm
      obtain ⟨b, off, ea, hbb, hcs⟩ := (HR.out.below hbw).get (by omega)
      have x0 := hcs (m) hmj 0 (by omega)
      have x1 := hcs (m) hmj 1 (by omega)
      have x2 := hcs (m) hmj 2 (by omega)
      simp only [ePt, List.getElem?_cons_zero, List.getElem?_cons_succ, Nat.add_zero] at x0 x1 x2
      have x0 := cell_belowW x0
      have x1 := cell_belowW x1
      have x2 := cell_belowW x2
      have HLO : Hid (ordX l[m] (px, py, pi) < 0 → ∀ t (h : t < l.length), t < m + 1 → ordX l[t] (px, py, pi) < 0) := fun h t ht h2 => mono1.out t _ ht hmj (by omega) h
      have HHI : Hid (¬ ordX l[m] (px, py, pi) < 0 → ∀ t (h : t < l.length), m ≤ t → ¬ ordX l[t] (px, py, pi) < 0) := fun h t ht h2 h3 => h (mono1.out _ t hmj ht h2 h3)
      have HCC : Hid (∀ p : BelowW wr, Calls Tryz.prog 45 #[vPt l[m].1 l[m].2.1 l[m].2.2, vPt px py pi] p.W fun e w' => e = .returned (.int .i64 (ordX l[m] (px, py, pi))) ∧ Below p.W.heap.size p.W w') := fun p => HC.out l[m] p.W
      have EA := Lib.hid ea
      obtain ⟨o, ho⟩ : ∃ o, o = ordX l[m] (px, py, pi) := ⟨_, rfl⟩
      rw [← ho] at HLO HHI HCC
      clear hcs ea ho hpc
      generalize l[m] = q at *
      obtain ⟨qx, qy, qi⟩ := q
      simp only at x0 x1 x2 HCC
      obtain rfl := EA.out
      clear EA
      go_upto_region 5 with fail
      refine wp_region_below (by kernel_rfl) (by kernel_rfl) ?_
      repeat (quiet_step ((go_at_call 45; exact calls_below (HCC.out _))))
      refine wpQuiet_nil ?_
      intro w2 hw'
      have hb2 : Below wr.heap.size wr w2 := by obtain ⟨p, rfl⟩ := hw'; exact p.h
      have HB2 : Hid (Below W0.heap.size W0 w2) := HB.out.trans (hb2.mono HB.out.size)
      clear hw' k0 k1 k2 x0 x1 x2 hb2 HCC
      by_cases ho : o < 0
      · have HLO2 := Lib.hid (HLO.out ho)
        have d1 : decide (o < 0) = true := by simpa using ho
        clear HLO HHI
        go_wp2
        go_roundw
        case rel => exact ⟨m + 1, j, by go_num, rfl, by omega, hj, HLO2, H2, HB2⟩
        case measure => simp [intOf]; omega
      · have HHI2 := Lib.hid (HHI.out ho)
        have d1 : decide (o < 0) = false := by simpa using ho
        clear HLO HHI
        go_wp2
        go_roundw
        case rel => exact ⟨i, m, rfl, rfl, by omega, by omega, H1, HHI2, HB2⟩
        case measure => simp [intOf]; omega
    · obtain rfl : i = j := by omega
      by_cases hil : i < l.length
      · obtain ⟨b, off, ea, hbb, hcs⟩ := (HR.out.below hbw).get (by omega)
        have x0 := hcs i hil 0 (by omega)
        have x1 := hcs i hil 1 (by omega)
        have x2 := hcs i hil 2 (by omega)
        simp only [ePt, List.getElem?_cons_zero, List.getElem?_cons_succ, Nat.add_zero] at x0 x1 x2
        have x0 := cell_belowW x0
        have x1 := cell_belowW x1
        have x2 := cell_belowW x2
        have HCC : Hid (∀ p : BelowW wr, Calls Tryz.prog 45 #[vPt l[i].1 l[i].2.1 l[i].2.2, vPt px py pi] p.W fun e w' => e = .returned (.int .i64 (ordX l[i] (px, py, pi))) ∧ Below p.W.heap.size p.W w') := fun p => HC.out l[i] p.W
        have EA := Lib.hid ea
        obtain ⟨o, ho⟩ : ∃ o, o = ordX l[i] (px, py, pi) := ⟨_, rfl⟩
        have HO : Hid (decide (∃ h : i < l.length, ordX l[i] (px, py, pi) = 0) = (o == 0)) := by
          show _ = _
          rw [ho, Bool.eq_iff_iff]
          simp [hil]
        rw [← ho] at HCC
        have hd : decide (i < l.length) = true := by simpa using hil
        clear hcs ea ho hpc
        generalize l[i] = q at *
        obtain ⟨qx, qy, qi⟩ := q
        simp only at x0 x1 x2 HCC
        obtain rfl := EA.out
        clear EA
        go_upto_region 8 with fail
        refine wp_region_below (by kernel_rfl) (by kernel_rfl) ?_
        repeat (quiet_step ((go_at_call 45; exact calls_below (HCC.out _))))
        refine wpQuiet_nil ?_
        intro w2 hw'
        have hb2 : Below wr.heap.size wr w2 := by obtain ⟨p, rfl⟩ := hw'; exact p.h
        have HB2 : Hid (Below W.heap.size W w2) := hbw.trans (hb2.mono hbw.size)
        clear hw' k0 k1 k2 x0 x1 x2 hb2 HCC
        go_wp2
        go_ret2
        exact ⟨i, by rw [HO.out]; rfl, by omega, H1.out, (fun t h h2 h3 => absurd (H2.out t h h2) (by omega)), HB2.out⟩
      · obtain rfl : i = l.length := by omega
        have hbb := Lib.hid hbw
        clear k0 k1 k2
        go_upto_region 8 with fail
        go_quiet (fail)
        go_wp2
        go_ret2
        exact ⟨l.length, by simp, Nat.le_refl _, H1.out, fun t h h2 => absurd h (by omega), hbb.out.trans (Below.drewAny _ _)⟩
end Go.Proofs.YtggfdlanobndjaaGreat

/- slices.Delete of one element, of a row that the call owns; slices.Index at uint32. -/
namespace Go.Proofs.YtggfdlanobndjaaGreat
open Go.RowKit Go.Sort Go.Shelf Go.Lib Go.Maps
set_option linter.unusedSimpArgs false
set_option linter.unusedVariables false

theorem del_row {α : Type} [Inhabited α] {enc : α → Value} {w : World} {base g cap : Nat} {e : TypeId} {l : List α} {i : Nat} {zr : α} (h : w.ownsRow base e 1 (.slice (some ⟨g, 0, none⟩) l.length cap) l.length (l.map enc)) (hi : i < l.length) (q : Nat) :
    (putRow enc (Sort.ahead w q) g 0 (l.toArray.toList.take i ++ l.toArray.toList.drop (i + 1) ++ List.replicate (i + 1 - i) zr).toArray).ownsRow base e 1 (.slice (some ⟨g, 0, none⟩) (l.length - 1) cap) (l.length - 1) ((l.eraseIdx i).map enc) ∧
    KpS (fun k => k = g) w (putRow enc (Sort.ahead w q) g 0 (l.toArray.toList.take i ++ l.toArray.toList.drop (i + 1) ++ List.replicate (i + 1 - i) zr).toArray) := by
  rcases h.2 with ⟨h1, h0⟩ | ⟨g', cap', cur, h1, hg, hh, hc, hm, hs, ht⟩
  · cases h1
  · injection h1 with e1 e2 e3
    injection e1 with e1
    injection e1 with e1 _ _
    subst e1 e3
    have hl : (l.take i ++ l.drop (i + 1) ++ [zr]).length = l.length := by simp; omega
    have ht' : cur.toList.take l.length = l.map enc := by rwa [Nat.mul_one] at ht
    obtain ⟨cur', -, -, -, h9⟩ := owns_putRow (l := l) (l' := l.take i ++ l.drop (i + 1) ++ [zr]) hg hh (by omega) hm (by omega) hl q #[]
    rw [Sort.grow_empty] at h9
    have e9 : (l.toArray.toList.take i ++ l.toArray.toList.drop (i + 1) ++ List.replicate (i + 1 - i) zr) = l.take i ++ l.drop (i + 1) ++ [zr] := by
      rw [show i + 1 - i = 1 by omega]
      simp
    rw [e9]
    constructor
    · rw [hl] at h9
      have h8 := ownsRow_take (m := l.length - 1) h9 (by omega)
      have e8 : ((l.take i ++ l.drop (i + 1) ++ [zr]).map enc).take ((l.length - 1) * 1) = (l.eraseIdx i).map enc := by
        rw [Nat.mul_one, ← List.map_take, List.take_append_of_le_length (by simp; omega), List.take_of_length_le (by simp; omega), List.eraseIdx_eq_take_drop_succ]
      rw [e8] at h8
      exact h8
    · refine ⟨rfl, rfl, rfl, ?_, fun k hk hn => ?_⟩
      · show w.heap.size ≤ (w.heap.modify g _).size
        simp
      · show (w.heap.modify g _)[k]? = _
        rw [Array.getElem?_modify, if_neg (Ne.symm hn)]

theorem delU32 {w : World} {base g cap : Nat} {l : List Int} {i : Nat} (h : w.ownsRow base 32 1 (.slice (some ⟨g, 0, none⟩) l.length cap) l.length (l.map (Value.int .u32))) (hi : i < l.length) :
    Calls Tryz.prog 68 #[.slice (some ⟨g, 0, none⟩) l.length cap, .int .i64 i, .int .i64 (i + 1 : Nat)] w fun e w' => e = .returned (.slice (some ⟨g, 0, none⟩) (l.length - 1) cap) ∧ w'.ownsRow base 32 1 (.slice (some ⟨g, 0, none⟩) (l.length - 1) cap) (l.length - 1) ((l.eraseIdx i).map (Value.int .u32)) ∧ KpS (fun k => k = g) w w' := by
  obtain ⟨i0, hi0, hz1⟩ : ∃ i0, Tryz.prog.info? 32 = some i0 ∧ i0.size = 1 := by
    have hh : (Tryz.prog.info? 32).map (fun i => i.size) = some 1 := by kernel_rfl
    cases hq : Tryz.prog.info? 32 with
    | none => rw [hq] at hh; cases hh
    | some i => rw [hq] at hh; injection hh with hh; exact ⟨i, rfl, hh⟩
  have hcap : l.length ≤ cap ∧ cap ≤ 9223372036854775807 := by
    rcases h.2 with ⟨h1, h0⟩ | ⟨g', cap', cur, h1, hg, hh, hc, hm, hs, ht⟩
    · cases h1
    · injection h1 with e1 e2 e3
      subst e3
      unfold maxLen at hm
      omega
  have hH : Holds (Value.int .u32) w g 0 l.toArray := by
    rcases h.2 with ⟨h1, h0⟩ | ⟨g', cap', cur, h1, hg, hh, hc, hm, hs, ht⟩
    · cases h1
    · injection h1 with e1 e2 e3
      injection e1 with e1
      injection e1 with e1 _ _
      subst e1
      rw [Nat.mul_one] at ht
      exact holds_of_block hh ht
  have hc := AnyE.slices_Delete Tryz.delU32 (Value.int .u32) (fun _ => rfl) 0 (fun w => Tryz.zeroValue32 w) i0 hi0 hz1 g 0 cap i (i + 1) l.toArray w hH (by simpa using hcap.1) hcap.2 (by omega) (by simp; omega)
  change Calls Tryz.prog 68 _ _ _ at hc
  rw [show l.toArray.size = l.length by simp] at hc
  refine hc.mono ?_
  rintro e w' ⟨rfl, q, rfl⟩
  obtain ⟨h8, h9⟩ := del_row (zr := (0 : Int)) h hi q
  exact ⟨by rw [show i + 1 - i = 1 by omega], h8, h9⟩

theorem delI64 {w : World} {base g cap : Nat} {l : List Int} {i : Nat} (h : w.ownsRow base 2 1 (.slice (some ⟨g, 0, none⟩) l.length cap) l.length (l.map (Value.int .i64))) (hi : i < l.length) :
    Calls Tryz.prog 67 #[.slice (some ⟨g, 0, none⟩) l.length cap, .int .i64 i, .int .i64 (i + 1 : Nat)] w fun e w' => e = .returned (.slice (some ⟨g, 0, none⟩) (l.length - 1) cap) ∧ w'.ownsRow base 2 1 (.slice (some ⟨g, 0, none⟩) (l.length - 1) cap) (l.length - 1) ((l.eraseIdx i).map (Value.int .i64)) ∧ KpS (fun k => k = g) w w' := by
  obtain ⟨i0, hi0, hz1⟩ : ∃ i0, Tryz.prog.info? 2 = some i0 ∧ i0.size = 1 := by
    have hh : (Tryz.prog.info? 2).map (fun i => i.size) = some 1 := by kernel_rfl
    cases hq : Tryz.prog.info? 2 with
    | none => rw [hq] at hh; cases hh
    | some i => rw [hq] at hh; injection hh with hh; exact ⟨i, rfl, hh⟩
  have hcap : l.length ≤ cap ∧ cap ≤ 9223372036854775807 := by
    rcases h.2 with ⟨h1, h0⟩ | ⟨g', cap', cur, h1, hg, hh, hc, hm, hs, ht⟩
    · cases h1
    · injection h1 with e1 e2 e3
      subst e3
      unfold maxLen at hm
      omega
  have hH : Holds (Value.int .i64) w g 0 l.toArray := by
    rcases h.2 with ⟨h1, h0⟩ | ⟨g', cap', cur, h1, hg, hh, hc, hm, hs, ht⟩
    · cases h1
    · injection h1 with e1 e2 e3
      injection e1 with e1
      injection e1 with e1 _ _
      subst e1
      rw [Nat.mul_one] at ht
      exact holds_of_block hh ht
  have hc := AnyE.slices_Delete Tryz.delI64 (Value.int .i64) (fun _ => rfl) 0 (fun w => Tryz.zeroValue2 w) i0 hi0 hz1 g 0 cap i (i + 1) l.toArray w hH (by simpa using hcap.1) hcap.2 (by omega) (by simp; omega)
  change Calls Tryz.prog 67 _ _ _ at hc
  rw [show l.toArray.size = l.length by simp] at hc
  refine hc.mono ?_
  rintro e w' ⟨rfl, q, rfl⟩
  obtain ⟨h8, h9⟩ := del_row (zr := (0 : Int)) h hi q
  exact ⟨by rw [show i + 1 - i = 1 by omega], h8, h9⟩

theorem delInt {w : World} {base g cap : Nat} {l : List Int} {i : Nat} (h : w.ownsRow base 3 1 (.slice (some ⟨g, 0, none⟩) l.length cap) l.length (l.map (Value.int .i64))) (hi : i < l.length) :
    Calls Tryz.prog 69 #[.slice (some ⟨g, 0, none⟩) l.length cap, .int .i64 i, .int .i64 (i + 1 : Nat)] w fun e w' => e = .returned (.slice (some ⟨g, 0, none⟩) (l.length - 1) cap) ∧ w'.ownsRow base 3 1 (.slice (some ⟨g, 0, none⟩) (l.length - 1) cap) (l.length - 1) ((l.eraseIdx i).map (Value.int .i64)) ∧ KpS (fun k => k = g) w w' := by
  obtain ⟨i0, hi0, hz1⟩ : ∃ i0, Tryz.prog.info? 3 = some i0 ∧ i0.size = 1 := by
    have hh : (Tryz.prog.info? 3).map (fun i => i.size) = some 1 := by kernel_rfl
    cases hq : Tryz.prog.info? 3 with
    | none => rw [hq] at hh; cases hh
    | some i => rw [hq] at hh; injection hh with hh; exact ⟨i, rfl, hh⟩
  have hcap : l.length ≤ cap ∧ cap ≤ 9223372036854775807 := by
    rcases h.2 with ⟨h1, h0⟩ | ⟨g', cap', cur, h1, hg, hh, hc, hm, hs, ht⟩
    · cases h1
    · injection h1 with e1 e2 e3
      subst e3
      unfold maxLen at hm
      omega
  have hH : Holds (Value.int .i64) w g 0 l.toArray := by
    rcases h.2 with ⟨h1, h0⟩ | ⟨g', cap', cur, h1, hg, hh, hc, hm, hs, ht⟩
    · cases h1
    · injection h1 with e1 e2 e3
      injection e1 with e1
      injection e1 with e1 _ _
      subst e1
      rw [Nat.mul_one] at ht
      exact holds_of_block hh ht
  have hc := AnyE.slices_Delete Tryz.delInt (Value.int .i64) (fun _ => rfl) 0 (fun w => Tryz.zeroValue3 w) i0 hi0 hz1 g 0 cap i (i + 1) l.toArray w hH (by simpa using hcap.1) hcap.2 (by omega) (by simp; omega)
  change Calls Tryz.prog 69 _ _ _ at hc
  rw [show l.toArray.size = l.length by simp] at hc
  refine hc.mono ?_
  rintro e w' ⟨rfl, q, rfl⟩
  obtain ⟨h8, h9⟩ := del_row (zr := (0 : Int)) h hi q
  exact ⟨by rw [show i + 1 - i = 1 by omega], h8, h9⟩

set_option maxRecDepth 100000 in
set_option maxHeartbeats 1000000 in
theorem index32 (a : Option Addr) (l : List Int) (n c : Nat) (x : Int) (w : World) (hn : l.length = n) (h : Rd (.int .u32) w a l) (hl : n ≤ 1000000) (hx : x ∈ l) :
    Calls Tryz.prog 66 #[.slice a n c, .int .u32 x] w fun e w' => (∃ i : Nat, e = .returned (.int .i64 i) ∧ ∃ h : i < l.length, l[i] = x) ∧ w' = w := by
  subst hn
  have HR := Lib.hid h
  have HX := Lib.hid hx
  clear h hx
  go_enter Tryz.func66, Tryz.ntmps66
  go_wp2
  go_loopg [8] l.length (fun kx s8 wr => ∃ j : Nat, s8 = .int .i64 j ∧ j ≤ l.length ∧ l.length - j ≤ kx ∧ wr = w ∧ Hid (∀ t (h : t < l.length), t < j → l[t] ≠ x))
  case atStart => exact ⟨0, rfl, Nat.zero_le _, by omega, rfl, fun t h h2 => absurd h2 (Nat.not_lt_zero _)⟩
  case round =>
    obtain ⟨j, rfl, hj, hkx, rfl, H1⟩ := hrel
    by_cases hjl : j < l.length
    · obtain ⟨b, off, ea, hb, hc⟩ := HR.out.get (by omega)
      have x0 := hc j hjl
      have EA := Lib.hid ea
      obtain ⟨y, hy⟩ : ∃ y, y = l[j] := ⟨_, rfl⟩
      rw [← hy] at x0
      have HY := Lib.hid hy
      clear hc ea hy
      obtain rfl := EA.out
      clear EA
      by_cases hxy : x = y
      · have d1 : (x == y) = true := by simp [hxy]
        have d2 : decide (x = y) = true := by simp [hxy]
        have HXY := Lib.hid hxy
        clear hxy
        go_wp2
        go_ret
        exact ⟨⟨j, rfl, hjl, by rw [← HY.out, HXY.out]⟩, rfl⟩
      · have d1 : (x == y) = false := by simp [hxy]
        have d2 : decide (x = y) = false := by simp [hxy]
        have H2 : Hid (∀ t (h : t < l.length), t < j + 1 → l[t] ≠ x) := fun t h h2 => by
          by_cases e : t = j
          · subst e; rw [← HY.out]; exact fun e => hxy e.symm
          · exact H1.out t h (by omega)
        clear hxy
        go_wp2
        go_roundg (l.length - (j + 1))
        case measure => omega
        case rel => exact ⟨j + 1, by go_num, by omega, Nat.le_refl _, rfl, H2⟩
    · obtain ⟨t, ht, e⟩ := List.getElem_of_mem HX.out
      exact absurd e (H1.out t ht (by omega))
end Go.Proofs.YtggfdlanobndjaaGreat

/- cascade.Drop. -/
namespace Go.Proofs.YtggfdlanobndjaaGreat
open Go.RowKit Go.Sort Go.Shelf Go.Lib Go.Maps
attribute [local irreducible] wpQuiet
attribute [local go_sem] Oper.still1
set_option linter.unusedSimpArgs false
set_option linter.unusedVariables false

/-- where a point stands, or would stand -/
def posX (R : List Pt) (p : Pt) : Nat := R.countP fun q => decide (ordX q p < 0)
def fndX (R : List Pt) (p : Pt) : Bool := decide (∃ h : posX R p < R.length, ordX R[posX R p] p = 0)
theorem bsfX1 (a : Option Addr) (l : List Pt) (n cp : Nat) (p : Pt) (W : World) (hn : l.length = n) (hl : n ≤ 1000000) (hr : RdK ePt 3 W a l) (hs : l.Pairwise ltX) :
    Calls Tryz.prog 53 #[.slice a n cp, vPt p.1 p.2.1 p.2.2, .func (.func 45) #[] #[]] W fun e w' => e = .returned (.tuple #[.int .i64 (posX l p), .bool (fndX l p)]) ∧ Below W.heap.size W w' :=
  (bsfX a l n cp p W hn hl hr hs).mono fun e w' ⟨k, he, hk, h1, h2, hb⟩ => by
    have e1 : k = posX l p := count_cut l k hk (fun t h h9 => by simpa using h1 t h h9) (fun t h h9 => by simpa using h2 t h h9)
    subst e1
    exact ⟨he, hb⟩
theorem fndX_at {R : List Pt} (hs : R.Pairwise ltX) {x : Nat} (hx : x < R.length) : posX R R[x] = x ∧ fndX R R[x] = true := by
  have h0 : x = posX R R[x] := count_cut R x (Nat.le_of_lt hx) (fun t h h9 => by
    have := List.pairwise_iff_getElem.1 hs t x h hx h9
    simpa [ordX_lt] using this) (fun t h h9 => by
    simp only [decide_eq_false_iff_not, ordX_lt]
    by_cases e : t = x
    · subst e; exact ltX_irr _
    · intro h8
      have := List.pairwise_iff_getElem.1 hs x t hx h (by omega)
      exact ltX_irr _ (ltX_trans this h8))
  refine ⟨h0.symm, ?_⟩
  unfold fndX
  rw [decide_eq_true_eq]
  refine ⟨by omega, ?_⟩
  have e : R[posX R R[x]]'(by omega) = R[x] := by congr 1; exact h0.symm
  rw [e, ordX_eq]
  exact ⟨rfl, rfl⟩

set_option maxRecDepth 100000 in
set_option maxHeartbeats 4000000 in
theorem casc_drop_no {w : World} {lo hi tb fb : Nat} {R : List Pt} {gone : List Bool} {YS : List Nat} {V : CscV} (hA : CscAt w lo hi tb fb R gone YS V) (hW : CscWF R gone YS) (hR : R.length ≤ 20000) (p : Pt) (hno : ∀ x (h : x < R.length), R[x] = p → gone[x]? ≠ some false) :
    Calls Tryz.prog 28 #[.pointer (some ⟨tb, 0, none⟩), vPt p.1 p.2.1 p.2.2] w fun e w' => e = .returned (.bool false) ∧ Below w.heap.size w w' := by
  have hb := hA.blk
  have htl : tb < w.heap.size := Nat.lt_of_lt_of_le hA.tbr.2.1 hA.tbr.2.2.2.2
  obtain ⟨ra, rc, er, -, -, hrd⟩ := RdK.of_owns ePt_len (by decide) hA.row
  have hg0 := hA.gon
  obtain ⟨ga, gc, eg⟩ := rowV hA.gon
  rw [er, eg] at hb
  have CB := Lib.hid (fun W (hb : Below w.heap.size w W) => bsfX1 ra R R.length rc p W rfl (by omega) (hrd.below hb) hW.rowX)
  have HRD := Lib.hid hrd
  have HG := Lib.hid hA.gon
  have HNO := Lib.hid hno
  have HGL := Lib.hid hW.glen
  have HEG := Lib.hid eg
  obtain ⟨px, py, pi⟩ := p
  obtain ⟨n, hn⟩ : ∃ n, n = R.length := ⟨_, rfl⟩
  rw [← hn] at hR hb CB
  have HN := Lib.hid hn
  have HB := Lib.hid hb
  clear hA hW hrd hno hg0 hb er eg hn
  go_enter Tryz.func28, Tryz.ntmps28
  go_wp2_with fail
  obtain ⟨w1, ew1⟩ : ∃ w1, w1 = w.alloc (.cells #[.int .i64 px, .int .i64 py, .int .u32 pi] 34) := ⟨_, rfl⟩
  have hb1 : Below w.heap.size w w1 := by rw [ew1]; exact (Below.refl _ _).alloc (Nat.le_refl _) _
  have hx1 : w1.heap[w.heap.size]? = some (.cells #[.int .i64 px, .int .i64 py, .int .u32 pi] 34 (0, 0)) := by rw [ew1]; exact lit0 w _
  have ht1 := (hb1.block tb htl).trans HB.out
  rw [← ew1]
  clear ew1
  have c3 : w1.cell? ⟨tb, 3, none⟩ = some (.pointer (some ⟨fb, 0, none⟩)) := by simp [World.cell?, ht1]
  refine (casc_none tb fb w1 c3).mono ?_
  rintro e w' ⟨rfl, ew'⟩
  subst w'
  go_upto_region 3 with fail
  have k0 := cell_belowW (w := w1) (ad := ⟨tb, 0, none⟩) (v := .slice ra n rc) (by simp [World.cell?, ht1])
  have k1 := cell_belowW (w := w1) (ad := ⟨w.heap.size, 0, none⟩) (v := .int .i64 px) (by simp [World.cell?, hx1])
  have k2 := cell_belowW (w := w1) (ad := ⟨w.heap.size, 1, none⟩) (v := .int .i64 py) (by simp [World.cell?, hx1])
  have k3 := cell_belowW (w := w1) (ad := ⟨w.heap.size, 2, none⟩) (v := .int .u32 pi) (by simp [World.cell?, hx1])
  have HC3 : Hid (∀ p : BelowW w1, Calls Tryz.prog 53 #[.slice ra n rc, vPt px py pi, .func (.func 45) #[] #[]] p.W fun e w' => e = .returned (.tuple #[.int .i64 (posX R (px, py, pi)), .bool (fndX R (px, py, pi))]) ∧ Below p.W.heap.size p.W w') := fun p => CB.out p.W (hb1.trans (p.h.mono hb1.size))
  refine wp_region_below (by kernel_rfl) (by kernel_rfl) ?_
  repeat (quiet_step ((go_at_call 53; exact calls_below (HC3.out _))))
  refine wpQuiet_nil ?_
  intro w2 hw'
  have hb2 : Below w1.heap.size w1 w2 := by obtain ⟨p, rfl⟩ := hw'; exact p.h
  clear hw' HC3 k0 k1 k2 k3 CB c3
  have ht2 := (hb2.block tb (Nat.lt_of_lt_of_le htl hb1.size)).trans ht1
  have hx2 := (hb2.block w.heap.size (Array.getElem?_eq_some_iff.1 hx1).1).trans hx1
  have hB2 : Below w.heap.size w w2 := hb1.trans (hb2.mono hb1.size)
  have HB2 := Lib.hid hB2
  have c0 : w2.cell? ⟨tb, 0, none⟩ = some (.slice ra n rc) := by simp [World.cell?, ht2]
  have c2 : w2.cell? ⟨tb, 2, none⟩ = some (.slice ga n gc) := by simp [World.cell?, ht2]
  have x0 : w2.cell? ⟨w.heap.size, 0, none⟩ = some (.int .i64 px) := by simp [World.cell?, hx2]
  have x1 : w2.cell? ⟨w.heap.size, 1, none⟩ = some (.int .i64 py) := by simp [World.cell?, hx2]
  have x2 : w2.cell? ⟨w.heap.size, 2, none⟩ = some (.int .u32 pi) := by simp [World.cell?, hx2]
  clear hb1 hb2 ht1 hx1 ht2 hx2
  cases hf : fndX R (px, py, pi) with
  | false =>
    go_wp2_with fail
    go_upto_region 4 with fail
    go_quiet (fail)
    go_wp2
    go_ret
    exact ⟨rfl, HB2.out.trans (Below.drewAny _ _)⟩
  | true =>
    obtain ⟨hkl, ho⟩ := of_decide_eq_true hf
    rw [ordX_eq] at ho
    generalize posX R (px, py, pi) = k at *
    have hk2 : k < n := by rw [HN.out]; exact hkl
    obtain ⟨b, off, ea, hbb, hcs⟩ := (HRD.out.below hB2).get (by omega)
    have r0 := hcs k hkl 0 (by omega)
    have r1 := hcs k hkl 1 (by omega)
    have r2 := hcs k hkl 2 (by omega)
    simp only [ePt, List.getElem?_cons_zero, List.getElem?_cons_succ, Nat.add_zero] at r0 r1 r2
    have hgrow := ownsRow_below HG.out hB2
    rw [HEG.out] at hgrow
    obtain ⟨gg, gc', eg2, _, _⟩ := ownRow_at hgrow (by have := HN.out; omega)
    injection eg2 with eg2 eg3 eg4
    subst eg2
    have hnn := HN.out
    obtain ⟨gb, hgb⟩ : ∃ gb, gone[k]? = some gb := ⟨_, List.getElem?_eq_getElem (by have := HGL.out; omega)⟩
    have g0 := hgrow.cellAt k (by omega)
    rw [List.getElem?_map, hgb] at g0
    simp only [Option.map_some] at g0
    have HKK : Hid (R[k] = (px, py, pi) → gb = true) := fun he => by
      have := HNO.out k hkl he
      rw [hgb] at this
      cases gb with
      | true => rfl
      | false => exact absurd rfl this
    subst ea
    clear hcs hgrow hgb hB2 eg3 eg4 hnn
    generalize R[k] = q at *
    obtain ⟨qx, qy, qi⟩ := q
    simp only at r0 r1 r2 ho
    obtain ⟨ho1, ho2⟩ := ho
    subst ho1 ho2
    clear hf
    go_upto_region 4 with fail
    by_cases hqy : qy = py
    · subst hqy
      obtain rfl : gb = true := HKK.out rfl
      go_quiet (fail)
      go_wp2
      go_ret
      exact ⟨rfl, HB2.out.trans (Below.drewAny _ _)⟩
    · have d1 : (qy == py) = false := by simp [hqy]
      have d2 : decide (qy = py) = false := by simp [hqy]
      go_quiet (fail)
      go_wp2
      go_ret
      exact ⟨rfl, HB2.out.trans (Below.drewAny _ _)⟩
end Go.Proofs.YtggfdlanobndjaaGreat

/- Arguments that are slices of structs, opened to lists. (open_slice_fields is the guide's own block for copying, out of extra-structs.) -/
namespace Go.Proofs.YtggfdlanobndjaaGreat
open Go.RowKit Go.ChangeShapes Go.WideShapes Go.Deep

section
variable {H : Type} {enc : TypeId × Value → H} {P : Program} {w : World} {base : Nat} {spare : Nat → Bool} {held : Bool}
theorem open_slice_fields {t e : TypeId} {fs : Array Field} {fuel : Nat} {cs : List Value} {x : DataW H × List MemPlace} (ht : P.underlying t = some (.slice e)) (he : P.underlying e = some (.struct fs))
    (hone : oneCellFields P fs = true) (hC : P.cellsOf e = fs.size) (h : DataW.trod enc P w base spare held fuel t cs = some x) :
    (cs = [.slice none 0 0] ∧ x = (.nil, [])) ∨
    ∃ (a : Addr) (len cap m : Nat) (D : Nat → DataW H) (Pl : Nat → List MemPlace), cs = [.slice (some a) len cap] ∧ base ≤ a.block ∧ len ≤ cap ∧ cap ≤ maxLen ∧ m = (if spare a.block then cap else len) ∧
      x = (.slice ((List.range len).map D) ((List.range (m - len)).map fun j => D (len + j)), MemPlace.row a (m * fs.size) ++ (List.range m).flatMap Pl) ∧
      ∀ i, i < m → ∃ (ys : List (DataW H × List MemPlace)) (n : Nat), D i = .agg (ys.map (·.1)) ∧ Pl i = ys.flatMap (·.2) ∧ ys.length = fs.size ∧
        ∀ (j : Nat) (f : Field), fs[j]? = some f → ∃ (v : Value) (y : DataW H × List MemPlace), w.cell? (a.add (i * fs.size + j)) = some v ∧ ys[j]? = some y ∧ DataW.trod enc P w base spare held n f.type [v] = some y := by
  rcases open_slice ht h with h0 | ⟨a, len, cap, m, n, D, Pl, hcs, hb, hl, hm, hmm, hx, hi⟩
  · exact .inl h0
  · refine .inr ⟨a, len, cap, m, D, Pl, hcs, hb, hl, hm, hmm, by rw [hC] at hx; exact hx, fun i him => ?_⟩
    obtain ⟨cs', hc, ht'⟩ := hi i him
    rw [hC] at hc
    obtain ⟨ys, n', hn', hy, hlen, hyl, hf⟩ := DataW.trod_struct he ht'
    obtain ⟨_, hcl, hat⟩ := World.cells?_some hc
    simp only [Prod.mk.injEq] at hy
    refine ⟨ys, n', hy.1, hy.2, hyl, fun j f hj => ?_⟩
    obtain ⟨ho, hk⟩ := hone_of hone j f hj
    have hjl : j < fs.size := (Array.getElem?_eq_some_iff.1 hj).1
    have hcell := hat j hjl
    have hv : cs'[j]? = some (cs'[j]'(by omega)) := List.getElem?_eq_getElem (by omega)
    have h1 := hf j f hj
    rw [ho, hk] at h1
    have hone' : (cs'.drop j).take 1 = [cs'[j]'(by omega)] := by
      rw [List.drop_eq_getElem_cons (by omega)]
      rfl
    rw [hone'] at h1
    have hys : ys[j]? = some (ys[j]'(by omega)) := List.getElem?_eq_getElem (by omega)
    refine ⟨_, _, ?_, hys, h1.trans hys⟩
    rw [← Go.Deep.add_add, hcell, hv]
end

theorem list_of {α : Type} [Inhabited α] (n : Nat) (p : Nat → α → Prop) (h : ∀ i, i < n → ∃ x, p i x) : ∃ l : List α, l.length = n ∧ ∀ i (h : i < l.length), p i l[i] := by
  have h2 : ∀ i, ∃ x, i < n → p i x := fun i => by
    by_cases hi : i < n
    · obtain ⟨x, hx⟩ := h i hi
      exact ⟨x, fun _ => hx⟩
    · exact ⟨default, fun h => absurd h hi⟩
  refine ⟨(List.range n).map fun i => Classical.choose (h2 i), by simp, fun i hi => ?_⟩
  have hi' : i < n := by simpa using hi
  simpa using Classical.choose_spec (h2 i) hi'

theorem open_points {H : Type} {enc : TypeId × Value → H} {w : World} {base : Nat} {spare : Nat → Bool} {held : Bool} {fuel : Nat} {a : Option Addr} {len cap : Nat} {x : DataW H × List MemPlace} (h : DataW.trod enc Tryz.prog w base spare held fuel 22 [.slice a len cap] = some x) :
    ∃ l : List Pt, l.length = len ∧ RdK ePt 3 w a l ∧ len ≤ cap ∧ cap ≤ maxLen ∧ ∀ x ∈ l, (Lit.int .i64 x.1).wf = true ∧ (Lit.int .i64 x.2.1).wf = true ∧ (Lit.int .u32 x.2.2).wf = true := by
  rcases open_slice_fields Tryz.underlying22 Tryz.underlying34 (by kernel_rfl) (by kernel_rfl) h with ⟨hcs, _⟩ | ⟨ad, len', cap', m, D, Pl, hcs, _, hl, hm, hmm, _, hi⟩
  · simp at hcs
    obtain ⟨rfl, rfl, rfl⟩ := hcs
    exact ⟨[], rfl, .nil, Nat.le_refl _, Nat.zero_le _, by simp⟩
  · simp at hcs
    obtain ⟨rfl, rfl, rfl⟩ := hcs
    have hlm : len ≤ m := by rw [hmm]; split <;> omega
    obtain ⟨l, hll, hp⟩ := list_of len (fun i (p : Pt) => w.cell? (ad.add (i * 3 + 0)) = some (.int .i64 p.1) ∧ w.cell? (ad.add (i * 3 + 1)) = some (.int .i64 p.2.1) ∧ w.cell? (ad.add (i * 3 + 2)) = some (.int .u32 p.2.2) ∧ (Lit.int .i64 p.1).wf = true ∧ (Lit.int .i64 p.2.1).wf = true ∧ (Lit.int .u32 p.2.2).wf = true) (fun i hil => by
      obtain ⟨ys, n, _, _, _, hf⟩ := hi i (by omega)
      obtain ⟨v0, y0, c0, _, t0⟩ := hf 0 _ rfl
      obtain ⟨q0, e0, _, g0⟩ := DataW.trod_int Tryz.underlying2 t0
      simp at e0
      subst e0
      obtain ⟨v1, y1, c1, _, t1⟩ := hf 1 _ rfl
      obtain ⟨q1, e1, _, g1⟩ := DataW.trod_int Tryz.underlying2 t1
      simp at e1
      subst e1
      obtain ⟨v2, y2, c2, _, t2⟩ := hf 2 _ rfl
      obtain ⟨q2, e2, _, g2⟩ := DataW.trod_int Tryz.underlying32 t2
      simp at e2
      subst e2
      exact ⟨⟨q0, q1, q2⟩, c0, c1, c2, g0, g1, g2⟩)
    refine ⟨l, hll, ?_, hl, hm, fun x hx => ?_⟩
    · by_cases h0 : l = []
      · exact .inl h0
      · obtain ⟨b, off, spot⟩ := ad
        have hpos : 0 < l.length := List.length_pos_iff.2 h0
        have h1 := (hp 0 hpos).1
        have hs : spot = none := by simpa [Addr.add] using World.cell?_spot h1
        subst hs
        have hadd : ∀ i, (⟨b, off, none⟩ : Addr).add i = ⟨b, off + i, none⟩ := fun i => by unfold Addr.add; split <;> simp_all
        refine .inr ⟨b, off, rfl, ?_, fun i hi j hj => ?_⟩
        · have := World.block_lt_of_cell? w _ h1
          rw [hadd] at this
          exact this
        · have h2 := hp i hi
          simp only [hadd] at h2
          rw [Nat.add_assoc]
          match j, hj with
          | 0, _ => exact h2.1
          | 1, _ => exact h2.2.1
          | 2, _ => exact h2.2.2.1
    · obtain ⟨i, hi, rfl⟩ := List.getElem_of_mem hx
      exact (hp i hi).2.2.2

set_option maxRecDepth 100000 in
theorem open_point {H : Type} {enc : TypeId × Value → H} {w : World} {base : Nat} {spare : Nat → Bool} {held : Bool} {r : Reach} {b0 : Nat} {v : Value} {d : DataW H} {ps : List MemPlace} (hval : Value.okWide Tryz.prog w r b0 34 v) (hd : DataW.Trod enc Tryz.prog w base spare held 34 v d ps) :
    ∃ p : Pt, v = vPt p.1 p.2.1 p.2.2 ∧ (Lit.int .i64 p.1).wf = true ∧ (Lit.int .i64 p.2.1).wf = true ∧ (Lit.int .u32 p.2.2).wf = true := by
  obtain ⟨v0, v1, v2, y0, y1, y2, n, rfl, _, _, t0, t1, t2⟩ := Go.Joins.open_agg3 Tryz.underlying34 (by kernel_rfl) (by kernel_rfl) hval hd
  obtain ⟨q0, e0, _, g0⟩ := DataW.trod_int Tryz.underlying2 t0
  obtain ⟨q1, e1, _, g1⟩ := DataW.trod_int Tryz.underlying2 t1
  obtain ⟨q2, e2, _, g2⟩ := DataW.trod_int Tryz.underlying32 t2
  simp at e0 e1 e2
  subst e0 e1 e2
  exact ⟨(q0, q1, q2), rfl, g0, g1, g2⟩

end Go.Proofs.YtggfdlanobndjaaGreat

/- Arguments that are boxes, rows of boxes, of bytes, of truths, opened to lists. -/
namespace Go.Proofs.YtggfdlanobndjaaGreat
open Go.RowKit Go.ChangeShapes Go.WideShapes Go.Deep

/-- a box: X1, X2, Y1, Y2, and its name -/
abbrev Bx := Int × Int × Int × Int × Int
def eBx (p : Bx) : List Value := [.int .i64 p.1, .int .i64 p.2.1, .int .i64 p.2.2.1, .int .i64 p.2.2.2.1, .int .u32 p.2.2.2.2]
theorem eBx_len (p : Bx) : (eBx p).length = 5 := rfl
abbrev vBx (p : Bx) : Value := .agg #[.int .i64 p.1, .int .i64 p.2.1, .int .i64 p.2.2.1, .int .i64 p.2.2.2.1, .int .u32 p.2.2.2.2]
abbrev Bx.wf (p : Bx) : Prop := (Lit.int .i64 p.1).wf = true ∧ (Lit.int .i64 p.2.1).wf = true ∧ (Lit.int .i64 p.2.2.1).wf = true ∧ (Lit.int .i64 p.2.2.2.1).wf = true ∧ (Lit.int .u32 p.2.2.2.2).wf = true

theorem array5 {α : Type} {cs : Array α} (h : cs.size = 5) : ∃ c0 c1 c2 c3 c4, cs = #[c0, c1, c2, c3, c4] := by
  obtain ⟨l⟩ := cs
  match l, h with
  | [c0, c1, c2, c3, c4], _ => exact ⟨c0, c1, c2, c3, c4, rfl⟩

section
variable {H : Type} {enc : TypeId × Value → H} {P : Program} {w : World} {base : Nat} {spare : Nat → Bool} {held : Bool}
theorem open_agg_at {r : Reach} {b0 : Nat} {t : TypeId} {fs : Array Field} {v : Value} {d : DataW H} {p : List MemPlace} (hs : P.underlying t = some (.struct fs)) (hone : oneCellFields P fs = true) (hC : P.cellsOf t = fs.size)
    (hv : Value.okWide P w r b0 t v) (h : DataW.Trod enc P w base spare held t v d p) :
    ∃ cs : Array Value, v = .agg cs ∧ cs.size = fs.size ∧ ∃ n, ∀ (i : Nat) (f : Field), fs[i]? = some f → ∃ (u : Value) (y : DataW H × List MemPlace), cs[i]? = some u ∧ DataW.trod enc P w base spare held n f.type [u] = some y := by
  obtain ⟨cs, rfl, hsz⟩ := okWide_struct hs hv
  obtain ⟨fuel, hf⟩ := h
  obtain ⟨xs, n, _, _, hl, hlen, hf⟩ := DataW.trod_struct hs hf
  refine ⟨cs, rfl, hsz.trans hC, n, fun i f hi => ?_⟩
  obtain ⟨ho, hk⟩ := hone_of hone i f hi
  have hil : i < fs.size := (Array.getElem?_eq_some_iff.1 hi).1
  have h1 := hf i f hi
  have hcs : i < cs.size := by omega
  rw [ho, hk] at h1
  have e1 : ((Value.agg cs).cells.toList.drop i).take 1 = [cs[i]] := by
    show (cs.toList.drop i).take 1 = _
    rw [List.drop_eq_getElem_cons (by simpa using hcs)]
    simp
  rw [e1] at h1
  have hx : xs[i]? = some (xs[i]'(by omega)) := List.getElem?_eq_getElem (by omega)
  exact ⟨cs[i], _, by simp [hcs], h1.trans hx⟩

theorem open_bytes4 {r : Reach} {b0 : Nat} {t e : TypeId} {k : IntKind} {v : Value} {d : DataW H} {p : List MemPlace} (ht : P.underlying t = some (.array 4 e)) (he : P.underlying e = some (.int k)) (hc : P.cellsOf e = 1) (hC : P.cellsOf t = 4)
    (hv : Value.okWide P w r b0 t v) (h : DataW.Trod enc P w base spare held t v d p) :
    ∃ a b c d : Int, v = .agg #[.int k a, .int k b, .int k c, .int k d] ∧ (Lit.int k a).wf = true ∧ (Lit.int k b).wf = true ∧ (Lit.int k c).wf = true ∧ (Lit.int k d).wf = true := by
  simp only [Value.okWide, ht] at hv
  obtain ⟨cs, rfl, hsz, _⟩ := hv
  obtain ⟨c0, c1, c2, c3, rfl⟩ := Go.Joins.array4 (hsz.trans hC)
  obtain ⟨fuel, hf⟩ := h
  obtain ⟨xs, m, _, _, _, hl, hel⟩ := DataW.trod_array ht hf
  simp only [hc] at hel
  have g : ∀ (i : Nat) (u : Value), i < 4 → ((Value.agg #[c0, c1, c2, c3]).cells.toList.drop (i * 1)).take 1 = [u] → ∃ q, u = .int k q ∧ (Lit.int k q).wf = true := fun i u hi e1 => by
    have h1 := hel i hi
    rw [e1] at h1
    have hx : xs[i]? = some (xs[i]'(by omega)) := List.getElem?_eq_getElem (by omega)
    obtain ⟨q, e0, _, g0⟩ := DataW.trod_int he (h1.trans hx)
    simp at e0
    exact ⟨q, e0, g0⟩
  obtain ⟨q0, rfl, g0⟩ := g 0 c0 (by decide) rfl
  obtain ⟨q1, rfl, g1⟩ := g 1 c1 (by decide) rfl
  obtain ⟨q2, rfl, g2⟩ := g 2 c2 (by decide) rfl
  obtain ⟨q3, rfl, g3⟩ := g 3 c3 (by decide) rfl
  exact ⟨q0, q1, q2, q3, rfl, g0, g1, g2, g3⟩

theorem open_bool_list {fuel : Nat} {t e : TypeId} {a : Option Addr} {len cap : Nat} {x : DataW H × List MemPlace} (ht : P.underlying t = some (.slice e)) (he : P.underlying e = some .bool) (hc : P.cellsOf e = 1)
    (h : DataW.trod enc P w base (fun _ => true) held fuel t [.slice a len cap] = some x) : ∃ l : List Bool, l.length = len ∧ Rd .bool w a l ∧ len ≤ cap ∧ cap ≤ maxLen := by
  rcases open_bools ht he hc h with ⟨hcs, _⟩ | ⟨ad, len', cap', B, hcs, _, hl, hm, _, hcell⟩
  · simp at hcs
    obtain ⟨rfl, rfl, rfl⟩ := hcs
    exact ⟨[], rfl, .nil, Nat.le_refl _, Nat.zero_le _⟩
  · simp at hcs
    obtain ⟨rfl, rfl, rfl⟩ := hcs
    refine ⟨(List.range len).map B, by simp, ?_, hl, hm⟩
    by_cases h0 : len = 0
    · subst h0; exact .inl rfl
    · obtain ⟨b, off, spot⟩ := ad
      have h1 := hcell 0 (by omega)
      have hs : spot = none := by simpa [Addr.add] using World.cell?_spot h1
      subst hs
      have hadd : ∀ i, (⟨b, off, none⟩ : Addr).add i = ⟨b, off + i, none⟩ := fun i => by unfold Addr.add; split <;> simp_all
      refine .inr ⟨b, off, rfl, ?_, fun i hi => ?_⟩
      · have := World.block_lt_of_cell? w _ h1
        rw [hadd] at this
        exact this
      · have h2 := hcell i (by simp at hi; omega)
        rw [hadd] at h2
        simpa using h2
end

set_option maxRecDepth 100000 in
theorem open_box {H : Type} {enc : TypeId × Value → H} {w : World} {base : Nat} {spare : Nat → Bool} {held : Bool} {r : Reach} {b0 : Nat} {v : Value} {d : DataW H} {ps : List MemPlace} (hval : Value.okWide Tryz.prog w r b0 61 v) (hd : DataW.Trod enc Tryz.prog w base spare held 61 v d ps) :
    ∃ p : Bx, v = vBx p ∧ p.wf := by
  obtain ⟨cs, rfl, hsz, n, hf⟩ := open_agg_at Tryz.underlying61 (by kernel_rfl) (by kernel_rfl) hval hd
  obtain ⟨c0, c1, c2, c3, c4, rfl⟩ := array5 (hsz.trans rfl)
  obtain ⟨u0, y0, z0, t0⟩ := hf 0 _ rfl
  obtain rfl : c0 = u0 := by simpa using z0
  obtain ⟨q0, e0, _, g0⟩ := DataW.trod_int Tryz.underlying2 t0
  simp at e0
  subst e0
  obtain ⟨u1, y1, z1, t1⟩ := hf 1 _ rfl
  obtain rfl : c1 = u1 := by simpa using z1
  obtain ⟨q1, e1, _, g1⟩ := DataW.trod_int Tryz.underlying2 t1
  simp at e1
  subst e1
  obtain ⟨u2, y2, z2, t2⟩ := hf 2 _ rfl
  obtain rfl : c2 = u2 := by simpa using z2
  obtain ⟨q2, e2, _, g2⟩ := DataW.trod_int Tryz.underlying2 t2
  simp at e2
  subst e2
  obtain ⟨u3, y3, z3, t3⟩ := hf 3 _ rfl
  obtain rfl : c3 = u3 := by simpa using z3
  obtain ⟨q3, e3, _, g3⟩ := DataW.trod_int Tryz.underlying2 t3
  simp at e3
  subst e3
  obtain ⟨u4, y4, z4, t4⟩ := hf 4 _ rfl
  obtain rfl : c4 = u4 := by simpa using z4
  obtain ⟨q4, e4, _, g4⟩ := DataW.trod_int Tryz.underlying32 t4
  simp at e4
  subst e4
  exact ⟨(q0, q1, q2, q3, q4), rfl, g0, g1, g2, g3, g4⟩
end Go.Proofs.YtggfdlanobndjaaGreat

/- Boxes and points as they lie in a block of their own. No function of the program is walked here. -/
namespace Go.Proofs.YtggfdlanobndjaaGreat
open Go.RowKit
set_option linter.unusedSimpArgs false

/-- a box as it lies -/
def objBx (p : Bx) : Obj := .cells #[.int .i64 p.1, .int .i64 p.2.1, .int .i64 p.2.2.1, .int .i64 p.2.2.2.1, .int .u32 p.2.2.2.2] 61 (0, 0)
theorem objBx_cells {W : World} {b : Nat} {p : Bx} (h : W.heap[b]? = some (objBx p)) : W.cell? ⟨b, 0, none⟩ = some (.int .i64 p.1) ∧ W.cell? ⟨b, 1, none⟩ = some (.int .i64 p.2.1) ∧ W.cell? ⟨b, 2, none⟩ = some (.int .i64 p.2.2.1) ∧ W.cell? ⟨b, 3, none⟩ = some (.int .i64 p.2.2.2.1) ∧ W.cell? ⟨b, 4, none⟩ = some (.int .u32 p.2.2.2.2) := by simp [World.cell?, h, objBx]

/-- a point as it lies -/
def obP (p : Pt) : Obj := .cells #[.int .i64 p.1, .int .i64 p.2.1, .int .u32 p.2.2] 34 (0, 0)
theorem obP_cells {W : World} {b : Nat} {p : Pt} (h : W.heap[b]? = some (obP p)) : W.cell? ⟨b, 0, none⟩ = some (.int .i64 p.1) ∧ W.cell? ⟨b, 1, none⟩ = some (.int .i64 p.2.1) ∧ W.cell? ⟨b, 2, none⟩ = some (.int .u32 p.2.2) := by simp [World.cell?, h, obP]
end Go.Proofs.YtggfdlanobndjaaGreat

/- gridironref10: Has, Drop. -/
namespace Go.Proofs.YtggfdlanobndjaaGreat
open Go.RowKit
attribute [local irreducible] wpQuiet
set_option linter.unusedSimpArgs false
set_option linter.unusedVariables false

theorem elPt10 : ElemOK Tryz.prog 22 34 3 24 := .mk' (z := .agg #[.int .i64 0, .int .i64 0, .int .u32 0]) Tryz.underlying22 (by kernel_rfl) rfl (by decide)

theorem inB_cases (x1 x2 y1 y2 : Int) (px py pi : Int) :
    (inB x1 x2 y1 y2 (px, py, pi) = true ∧ decide (x1 ≤ px) = true ∧ decide (px ≤ x2) = true ∧ decide (y1 ≤ py) = true ∧ decide (py ≤ y2) = true) ∨
    (inB x1 x2 y1 y2 (px, py, pi) = false ∧ decide (x1 ≤ px) = false) ∨ (inB x1 x2 y1 y2 (px, py, pi) = false ∧ decide (x1 ≤ px) = true ∧ decide (px ≤ x2) = false) ∨
    (inB x1 x2 y1 y2 (px, py, pi) = false ∧ decide (x1 ≤ px) = true ∧ decide (px ≤ x2) = true ∧ decide (y1 ≤ py) = false) ∨
    (inB x1 x2 y1 y2 (px, py, pi) = false ∧ decide (x1 ≤ px) = true ∧ decide (px ≤ x2) = true ∧ decide (y1 ≤ py) = true ∧ decide (py ≤ y2) = false) := by
  unfold inB
  simp only [decide_eq_true_eq, decide_eq_false_iff_not]
  omega

theorem ids_take_in {l : List Pt} {i : Nat} (hi : i < l.length) (f : Pt → Bool) : (f l[i] = true → ids ((l.take (i + 1)).filter f) = ids ((l.take i).filter f) ++ [l[i].2.2]) ∧ (f l[i] = false → ids ((l.take (i + 1)).filter f) = ids ((l.take i).filter f)) := by
  rw [List.take_succ_eq_append_getElem hi, List.filter_append]
  constructor <;> intro h
  · rw [List.filter_cons_of_pos h]
    simp [ids]
  · rw [List.filter_cons_of_neg (by simp [h])]
    simp [ids]

theorem pt_eq_cases (px py pi qx qy qi : Int) :
    (((px, py, pi) : Pt) = (qx, qy, qi) ∧ (px == qx) = true ∧ (py == qy) = true ∧ (pi == qi) = true) ∨
    (((px, py, pi) : Pt) ≠ (qx, qy, qi) ∧ (px == qx) = false) ∨ (((px, py, pi) : Pt) ≠ (qx, qy, qi) ∧ (px == qx) = true ∧ (py == qy) = false) ∨
    (((px, py, pi) : Pt) ≠ (qx, qy, qi) ∧ (px == qx) = true ∧ (py == qy) = true ∧ (pi == qi) = false) := by
  simp only [ne_eq, Prod.mk.injEq, beq_iff_eq, beq_eq_false_iff_ne]
  omega

theorem take_out {l : List Pt} {i : Nat} (hi : i < l.length) (p : Pt) : (l[i] = p → (l.take (i + 1)).filter (fun q => decide (q ≠ p)) = (l.take i).filter (fun q => decide (q ≠ p))) ∧ (l[i] ≠ p → (l.take (i + 1)).filter (fun q => decide (q ≠ p)) = (l.take i).filter (fun q => decide (q ≠ p)) ++ [l[i]]) := by
  rw [List.take_succ_eq_append_getElem hi, List.filter_append]
  constructor <;> intro h
  · rw [List.filter_cons_of_neg (by simp [h])]
    simp
  · rw [List.filter_cons_of_pos (by simp [h])]
    simp

theorem out_less (l : List Pt) (p : Pt) : decide (((l.filter fun q => decide (q ≠ p)).length : Int) < (l.length : Int)) = decide (p ∈ l) := by
  rw [Bool.eq_iff_iff, decide_eq_true_eq, decide_eq_true_eq]
  constructor
  · intro h
    by_cases hp : p ∈ l
    · exact hp
    · exfalso
      have : (l.filter fun q => decide (q ≠ p)) = l := List.filter_eq_self.2 fun q hq => by
        simp only [decide_eq_true_eq]
        rintro rfl
        exact hp hq
      rw [this] at h
      omega
  · intro hp
    have h1 := List.length_filter_le (fun q => decide (q ≠ p)) l
    have h2 : (l.filter fun q => decide (q ≠ p)).length ≠ l.length := fun e => by
      have := List.length_filter_eq_length_iff.1 e p hp
      simp at this
    omega

set_option maxRecDepth 100000 in
set_option maxHeartbeats 4000000 in
theorem ref10_drop (a : Option Addr) (l : List Pt) (n c : Nat) (p : Pt) (w : World) (hn : l.length = n) (h : RdK ePt 3 w a l) (hl : n ≤ 1000000) :
    Calls Tryz.prog 20 #[.slice a n c, vPt p.1 p.2.1 p.2.2] w fun e w' => ∃ v, e = .returned (.tuple #[v, .bool (decide (p ∈ l))]) ∧ w'.ownsRow w.heap.size 34 3 v (l.filter fun q => decide (q ≠ p)).length ((l.filter fun q => decide (q ≠ p)).flatMap ePt) ∧ Below w.heap.size w w' := by
  subst hn
  have H := Lib.hid h
  clear h
  obtain ⟨qx, qy, qi⟩ := p
  go_enter Tryz.func20, Tryz.ntmps20
  obtain ⟨w1, ew1⟩ : ∃ w1, w1 = w.alloc (.cells #[.int .i64 qx, .int .i64 qy, .int .u32 qi] 34) := ⟨_, rfl⟩
  have hb1 : Below w.heap.size w w1 := by rw [ew1]; exact (Below.refl _ _).alloc (Nat.le_refl _) _
  have hs1 : w.heap.size + 1 = w1.heap.size := by rw [ew1]; simp
  have hx1 : w1.heap[w.heap.size]? = some (.cells #[.int .i64 qx, .int .i64 qy, .int .u32 qi] 34 (0, 0)) := by rw [ew1]; show (w.heap.push _)[w.heap.size]? = _; simp
  have EX : w.alloc (.cells #[.int .i64 qx, .int .i64 qy, .int .u32 qi] 34) = w1 := ew1.symm
  clear ew1
  go_wp2
  try rw [EX]
  clear EX
  go_loopw [6, 7] (fun v iv wr => ∃ (i : Nat), iv = .int .i64 i ∧ i ≤ l.length ∧ Hid (wr.ownsRow w1.heap.size 34 3 v ((l.take i).filter fun q => decide (q ≠ (qx, qy, qi))).length (((l.take i).filter fun q => decide (q ≠ (qx, qy, qi))).flatMap ePt)) ∧ Below w1.heap.size w1 wr) (fun _ iv _ => l.length - (intOf iv).toNat)
  case atStart => exact ⟨0, rfl, Nat.zero_le _, by simp; exact World.ownsRow_nil _ _ _ _, Below.refl _ _⟩
  case round =>
    obtain ⟨i, rfl, hi, HO, hb⟩ := hrel
    have hb0 := hb1.trans (hb.mono hb1.size)
    have hss := hb.size
    by_cases hlt : i < l.length
    · obtain ⟨b, off, ea, hbl, hcs⟩ := (H.out.below hb0).get (by omega)
      have x0 := hcs i hlt 0 (by omega)
      have x1' := hcs i hlt 1 (by omega)
      have x2' := hcs i hlt 2 (by omega)
      simp only [ePt, List.getElem?_cons_zero, List.getElem?_cons_succ, Nat.add_zero] at x0 x1' x2'
      have bx := (hb.block w.heap.size (by omega)).trans hx1
      have hlk : ((l.take i).filter fun q => decide (q ≠ (qx, qy, qi))).length ≤ 1000000 := Nat.le_trans (List.length_filter_le _ _) (by rw [List.length_take]; omega)
      have HY : Hid _ := (take_out hlt (qx, qy, qi)).1
      have HX : Hid _ := (take_out hlt (qx, qy, qi)).2
      have EA := Lib.hid ea
      clear hcs ea
      generalize l[i] = p at *
      obtain ⟨px, py, pi⟩ := p
      simp only at x0 x1' x2'
      obtain rfl := EA.out
      clear EA
      generalize ((l.take i).filter fun q => decide (q ≠ (qx, qy, qi))) = L at *
      have b0 : wr.cell? ⟨w.heap.size, 0, none⟩ = some (.int .i64 qx) := by simp [World.cell?, bx]
      have b1 : wr.cell? ⟨w.heap.size, 1, none⟩ = some (.int .i64 qy) := by simp [World.cell?, bx]
      have b2 : wr.cell? ⟨w.heap.size, 2, none⟩ = some (.int .u32 qi) := by simp [World.cell?, bx]
      have hkl : (i : Int) < (l.length : Int) := by omega
      clear bx
      rcases pt_eq_cases px py pi qx qy qi with ⟨hf, d1, d2, d3⟩ | ⟨hf, d1⟩ | ⟨hf, d1, d2⟩ | ⟨hf, d1, d2, d3⟩
      · have HF := Lib.hid (HY.out hf)
        clear hf HY HX
        go_wp2
        go_region
        all_goals
          go_wp2
          go_roundw
          case rel =>
            refine ⟨i + 1, by go_num, by omega, ?_, hb.drew⟩
            show World.ownsRow _ _ _ _ _ _ _
            rw [HF.out]
            exact HO.out.drew
          case measure => simp [intOf]; omega
      all_goals
        have HF := Lib.hid (HX.out hf)
        clear hf HY HX
        go_wp2
        go_region
        all_goals
          have HOA := Lib.hid HO.out.drew
          go_wp2_with (at_builtin; refine wp_append1 elPt10 w1.heap.size HOA.out [.int .i64 px, .int .i64 py, .int .u32 pi] rfl (by simp [Value.oneCell']) rfl _ _ rfl rfl _ rfl (by unfold maxLen; omega) (by omega) hss ?_; intro v' w6 hown' hg; have b6 := below_grown hb.drew HOA.out hg hss (Nat.le_refl _))
          go_roundw
          case rel =>
            refine ⟨i + 1, by go_num, by omega, ?_, b6⟩
            show World.ownsRow _ _ _ _ _ _ _
            rw [HF.out, List.flatMap_append, List.length_append]
            exact hown'
          case measure => simp [intOf]; omega
    · obtain rfl : i = l.length := by omega
      have HO2 := HO.out
      rw [List.take_length] at HO2
      have hol := out_less l (qx, qy, qi)
      obtain ⟨av, cv, rfl, -, -, hr⟩ := RdK.of_owns ePt_len (by decide) HO2
      have HOL := Lib.hid hol
      clear hol
      go_wp2
      go_ret2
      refine ⟨.slice av (l.filter fun q => decide (q ≠ (qx, qy, qi))).length cv, by rw [← HOL.out]; rfl, ?_, hb0⟩
      · exact ⟨HO2.1, by
        rcases HO2.2 with h | ⟨g, cap, cur, e, hg, hrest⟩
        · exact .inl h
        · exact .inr ⟨g, cap, cur, e, Nat.le_trans hb1.size hg, hrest⟩⟩
end Go.Proofs.YtggfdlanobndjaaGreat

/- Reslicing among the operations that a drawn region takes first. No function of the program is walked here. -/
namespace Go.Proofs.YtggfdlanobndjaaGreat
open Go Go.RowKit
set_option linter.unusedSimpArgs false
set_option linter.unusedVariables false

theorem step_hdSlice {P : Program} {ops : Array Oper} {o : Oper} {a : Act} {C : World → Prop} {b : Bool} {K : Act → Prop} {E0 : Prop} {α : Type} {enc : α → List Value} {sz : Nat} {t e : TypeId} {bytes : Nat} (E : ElemOK P t e sz bytes) (ad : Option Addr) (l : List α) (n c m : Nat) (hl : l.length = n) (hc : n ≤ c) (hm : m ≤ n)
    (hgd : o.guard = none) (x hg : Operand) (ho : o.op = .slice t x none (some hg) none) (hx : a.eval x = .slice ad n c) (hhigh : a.eval hg = .int .i64 m)
    (h : ∀ ad', (∀ W, RdK enc sz W ad l → RdK enc sz W ad' (l.take m)) → K (a.put o.dst (.slice ad' m c))) :
    if Region.wanted o (yielded ops a.tmps) = true then Oper.still1 P o a C b K else E0 := by
  subst hl
  have hw : Region.wanted o (yielded ops a.tmps) = true := by simp [Region.wanted, hgd]
  rw [if_pos hw]
  obtain ⟨ht, ⟨i, z, hi', hz, hsize, hby, hzs⟩, hsz⟩ := E
  have hu : ∀ W', (underlying t).run P W' = .ok (.slice e) W' := fun W' => run_underlying ht W'
  have hs : ∀ W', (sizeOf e).run P W' = .ok sz W' := fun W' => by simp [sizeOf, typeInfo, hi', hsize]
  have hhc : m ≤ c := by omega
  refine ⟨.slice (if c = 0 then ad else ad.map (·.add (0 * sz))) m c, fun w _ => ?_, h _ fun W hr => ?_⟩
  · unfold execOp
    simp [ho, hx, hhigh, Instr.sliceAt, Instr.slice, Instr.sliceBounds, Instr.sliceBound, hu, hs, asIntOf, hhc]
  · have := rdk_cut (c := c) hr hc 0 m hm
    rwa [List.drop_zero] at this
end Go.Proofs.YtggfdlanobndjaaGreat
