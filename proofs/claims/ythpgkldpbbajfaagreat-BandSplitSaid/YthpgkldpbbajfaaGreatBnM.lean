/- A band while a point is dropped: a mark, the count, one node's lists. No function of the program is walked here. -/
import Derived.Test.YthpgkldpbbajfaaGreatBnA
namespace Go.Proofs.YthpgkldpbbajfaaGreat
open Go.RowKit Go.Sort Go.Shelf Go.Lib Go.Maps
set_option linter.unusedSimpArgs false
set_option linter.unusedVariables false

section
variable {w w' : World} {lo hi tb fb : Nat} {R : List Pt} {gone : List Bool} {cnt : Nat} {nc : Nat → List Nat} {V : BndV}
/-- the count is set -/
theorem BndAt.setCnt (h : BndAt w lo hi tb fb R gone cnt nc V) (m : Nat) : BndAt (w.setCell ⟨tb, 5, none⟩ (.int .i64 m)) lo hi tb fb R gone m nc V := by
  have K : KpS (fun k => k = tb) w (w.setCell ⟨tb, 5, none⟩ (.int .i64 m)) := (KpS.refl (fun k => k = tb) w).set (a := ⟨tb, 5, none⟩) _ (.inl rfl)
  have hg := h.blk
  exact ⟨heap_setCell_same w tb 5 _ _ _ h.blk, by simpa using h.tbr, rowT h.row K hg (by decide), rowT h.xs K hg (by decide), rowT h.gon K hg (by decide), frmT h.frm K hg (by decide) (by decide), rowT h.lst K hg (by decide),
    fun k hk => rowT (h.yss k hk) K hg (by decide), fun k hk => rowT (h.nam k hk) K hg (by decide), h.top, h.topL, h.neX, h.neY, h.neN⟩

/-- one is marked as gone -/
theorem BndAt.setGone (h : BndAt w lo hi tb fb R gone cnt nc V) {g n c : Nat} (hv : V.gv = .slice (some ⟨g, 0, none⟩) n c) (i : Nat) : BndAt (w.setCell ⟨g, i, none⟩ (.bool true)) lo hi tb fb R (gone.set i true) cnt nc V := by
  have K : KpS (fun k => k = g) w (w.setCell ⟨g, i, none⟩ (.bool true)) := (KpS.refl (fun k => k = g) w).set (a := ⟨g, i, none⟩) _ (.inl rfl)
  have hgo := h.gon
  rw [hv] at hgo
  obtain ⟨cs, fr, hg⟩ := ownBlk hgo
  refine ⟨blkT h.blk K hg (by decide), by simpa using h.tbr, rowT h.row K hg (by decide), rowT h.xs K hg (by decide), ?_, frmT h.frm K hg (by decide) (by decide), rowT h.lst K hg (by decide),
    fun k hk => rowT (h.yss k hk) K hg (by decide), fun k hk => rowT (h.nam k hk) K hg (by decide), h.top, h.topL, h.neX, h.neY, h.neN⟩
  rw [hv, List.map_set]
  have hn : n = R.length := by
    rcases hgo.2 with ⟨e9, -⟩ | ⟨g', cap, cur, e9, -⟩
    · cases e9
    · injection e9 with _ e9 _
  subst hn
  exact (hgo.stored i (.bool true)).1

/-- a node's lists are written anew -/
theorem BndAt.setList (h : BndAt w lo hi tb fb R gone cnt nc V) {w1 w2 : World} {k gy ny cy gn nn cn gl nl cl n' : Nat} (hk : k < (nds R.length).length) (hy : V.LY k = .slice (some ⟨gy, 0, none⟩) ny cy) (hn : V.LN k = .slice (some ⟨gn, 0, none⟩) nn cn) (hl : V.lv = .slice (some ⟨gl, 0, none⟩) nl cl)
    (K1 : KpS (fun k => k = gy) w w1) (K2 : KpS (fun k => k = gn) w1 w2) {L' : List Nat} (hry : w1.ownsRow lo 2 1 (.slice (some ⟨gy, 0, none⟩) n' cy) L'.length ((L'.map (yvR R)).map (Value.int .i64))) (hrn : w2.ownsRow lo 32 1 (.slice (some ⟨gn, 0, none⟩) n' cn) L'.length ((L'.map (nmR R)).map (Value.int .u32))) :
    BndAt ((w2.setCell ⟨gl, k * 2, none⟩ (.slice (some ⟨gy, 0, none⟩) n' cy)).setCell ⟨gl, k * 2 + 1, none⟩ (.slice (some ⟨gn, 0, none⟩) n' cn)) lo hi tb fb R gone cnt (updA nc k L') { V with LY := upd V.LY k (.slice (some ⟨gy, 0, none⟩) n' cy), LN := upd V.LN k (.slice (some ⟨gn, 0, none⟩) n' cn) } := by
  have hyr := h.yss k hk
  rw [hy] at hyr
  obtain ⟨csy, fry, hgy⟩ := ownBlk hyr
  have hnr := h.nam k hk
  rw [hn] at hnr
  have hnr1 := rowT hnr K1 hgy (by decide)
  obtain ⟨csn, frn, hgn⟩ := ownBlk hnr1
  have hls := h.lst
  rw [hl] at hls
  have hnl : nl = (nds R.length).length := by
    rcases hls.2 with ⟨e9, -⟩ | ⟨g', cap, cur, e9, -⟩
    · cases e9
    · injection e9 with _ e9 _
  subst hnl
  have hls2 := rowT (rowT hls K1 hgy (by decide)) K2 hgn (by decide)
  obtain ⟨csl, frl, hgl⟩ := ownBlk hls2
  generalize hvy : Value.slice (some ⟨gy, 0, none⟩) n' cy = vy at *
  generalize hvn : Value.slice (some ⟨gn, 0, none⟩) n' cn = vn at *
  have K3 : KpS (fun k => k = gl) w2 ((w2.setCell ⟨gl, k * 2, none⟩ vy).setCell ⟨gl, k * 2 + 1, none⟩ vn) := ((KpS.refl (fun k => k = gl) w2).set (a := ⟨gl, k * 2, none⟩) _ (.inl rfl)).set (a := ⟨gl, k * 2 + 1, none⟩) _ (.inl rfl)
  have three : ∀ {e : TypeId} {sz : Nat} {v : Value} {m : Nat} {xs : List Value}, w.ownsRow lo e sz v m xs → 2 ≠ e → 32 ≠ e → 108 ≠ e → ((w2.setCell ⟨gl, k * 2, none⟩ vy).setCell ⟨gl, k * 2 + 1, none⟩ vn).ownsRow lo e sz v m xs := fun hr h1 h2 h3 => rowT (rowT (rowT hr K1 hgy h1) K2 hgn h2) K3 hgl h3
  have two64 : ∀ {sz : Nat} {v : Value} {m : Nat} {xs : List Value}, w.ownsRow lo 2 sz v m xs → v.ownBlock ≠ some gy → ((w2.setCell ⟨gl, k * 2, none⟩ vy).setCell ⟨gl, k * 2 + 1, none⟩ vn).ownsRow lo 2 sz v m xs := fun hr h1 => rowT (rowT (rowO hr K1 h1) K2 hgn (by decide)) K3 hgl (by decide)
  have two32 : ∀ {sz : Nat} {v : Value} {m : Nat} {xs : List Value}, w.ownsRow lo 32 sz v m xs → v.ownBlock ≠ some gn → ((w2.setCell ⟨gl, k * 2, none⟩ vy).setCell ⟨gl, k * 2 + 1, none⟩ vn).ownsRow lo 32 sz v m xs := fun hr h1 => rowT (rowO (rowT hr K1 hgy (by decide)) K2 h1) K3 hgl (by decide)
  have oy : vy.ownBlock = some gy := by rw [← hvy]; rfl
  have on : vn.ownBlock = some gn := by rw [← hvn]; rfl
  have ownY : ∀ i, (upd V.LY k vy i).ownBlock = (V.LY i).ownBlock := fun i => by
    by_cases e : i = k
    · subst e; rw [upd_same, hy, oy]; rfl
    · rw [upd_ne e]
  have ownN : ∀ i, (upd V.LN k vn i).ownBlock = (V.LN i).ownBlock := fun i => by
    by_cases e : i = k
    · subst e; rw [upd_same, hn, on]; rfl
    · rw [upd_ne e]
  refine ⟨blkT (blkT (blkT h.blk K1 hgy (by decide)) K2 hgn (by decide)) K3 hgl (by decide), ?_, three h.row (by decide) (by decide) (by decide), two64 h.xs ?_, three h.gon (by decide) (by decide) (by decide), frmT (frmT (frmT h.frm K1 hgy (by decide) (by decide)) K2 hgn (by decide) (by decide)) K3 hgl (by decide) (by decide), ?_, fun j hj => ?_, fun j hj => ?_, h.top, fun j hj => ⟨fun g hg => ?_, fun g hg => ?_⟩, fun j hj g h1 h2 => ?_, fun i j hi hj hij g h1 h2 => ?_, fun i j hi hj hij g h1 h2 => ?_⟩
  · have := h.tbr; have := K1.size; have := K2.size; have := K3.size; omega
  · intro e
    exact h.neX k hk gy e (by rw [hy]; rfl)
  · show World.ownsRow _ _ _ _ V.lv _ _
    rw [hl]
    have h9 := ((hls2.stored (k * 2) vy).1.stored (k * 2 + 1) vn).1
    rw [lsF_setN _ _ hk, lsF_setL _ _ hk] at h9
    exact h9
  · by_cases e : j = k
    · subst e
      rw [updA_same]
      show World.ownsRow _ _ _ _ (upd V.LY j _ j) _ _
      rw [upd_same]
      exact rowT (rowT hry K2 hgn (by decide)) K3 hgl (by decide)
    · rw [updA_ne e]
      show World.ownsRow _ _ _ _ (upd V.LY k _ j) _ _
      rw [upd_ne e]
      exact two64 (h.yss j hj) (fun h9 => h.neY k j hk hj (Ne.symm e) gy (by rw [hy]; rfl) h9)
  · by_cases e : j = k
    · subst e
      rw [updA_same]
      show World.ownsRow _ _ _ _ (upd V.LN j _ j) _ _
      rw [upd_same]
      exact rowT hrn K3 hgl (by decide)
    · rw [updA_ne e]
      show World.ownsRow _ _ _ _ (upd V.LN k _ j) _ _
      rw [upd_ne e]
      exact two32 (h.nam j hj) (fun h9 => h.neN k j hk hj (Ne.symm e) gn (by rw [hn]; rfl) h9)
  · have hg : (upd V.LY k vy j).ownBlock = some g := hg
    rw [ownY] at hg
    exact (h.topL j hj).1 g hg
  · have hg : (upd V.LN k vn j).ownBlock = some g := hg
    rw [ownN] at hg
    exact (h.topL j hj).2 g hg
  · have h2 : (upd V.LY k vy j).ownBlock = some g := h2
    rw [ownY] at h2
    exact h.neX j hj g h1 h2
  · have h1 : (upd V.LY k vy i).ownBlock = some g := h1
    have h2 : (upd V.LY k vy j).ownBlock = some g := h2
    rw [ownY] at h1 h2
    exact h.neY i j hi hj hij g h1 h2
  · have h1 : (upd V.LN k vn i).ownBlock = some g := h1
    have h2 : (upd V.LN k vn j).ownBlock = some g := h2
    rw [ownN] at h1 h2
    exact h.neN i j hi hj hij g h1 h2
end
end Go.Proofs.YthpgkldpbbajfaaGreat
