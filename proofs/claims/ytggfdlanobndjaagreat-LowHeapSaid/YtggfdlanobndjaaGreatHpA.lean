/- A heap as it lies; Len. -/
import Derived.Test.YtggfdlanobndjaaGreatHpQ
import Derived.Test.YtggfdlanobndjaaGreatQ5
import Derived.Test.YtggfdlanobndjaaGreatQ6
import Derived.Test.YtggfdlanobndjaaGreatQ3
namespace Go.Proofs.YtggfdlanobndjaaGreat
open Go.RowKit Go.Sort Go.Shelf Go.Lib Go.Maps
attribute [local irreducible] wpQuiet
attribute [local go_sem] Oper.still1
set_option linter.unusedSimpArgs false
set_option linter.unusedVariables false

/-- a node's place as a number: -1 is none -/
def eHo : Option Nat → Int
  | none => -1
  | some i => i
theorem eHo_none : eHo none = -1 := rfl
theorem eHo_some (i : Nat) : eHo (some i) = (i : Int) := rfl
theorem eHo_inj {o : Option Nat} {i : Nat} : eHo o = (i : Int) ↔ o = some i := by
  cases o with
  | none => simp only [eHo]; constructor <;> intro h <;> first | omega | cases h
  | some j => simp only [eHo, Option.some.injEq]; omega
theorem eHo_neg {o : Option Nat} : eHo o = -1 ↔ o = none := by
  cases o with
  | none => simp [eHo]
  | some j => simp only [eHo]; constructor <;> intro h <;> first | omega | cases h
/-- the places that the first nodes hold -/
def hlF (h : Hld) (n : Nat) : List Value := (List.range n).map fun k => .int .i64 (eHo (h k))
theorem hlF_len (h : Hld) (n : Nat) : (hlF h n).length = n := by simp [hlF]
theorem hlF_get (h : Hld) {n k : Nat} (hk : k < n) : (hlF h n)[k]? = some (.int .i64 (eHo (h k))) := by simp [hlF, hk]
theorem hlF_set (h : Hld) {n k : Nat} (hk : k < n) (v : Option Nat) : (hlF h n).set k (.int .i64 (eHo v)) = hlF (updH h k v) n := by
  apply List.ext_getElem (by simp [hlF])
  intro i h1 h2
  simp only [hlF, List.getElem_set, List.getElem_map, List.getElem_range]
  by_cases e : k = i
  · subst e; rw [if_pos rfl, updH_same]
  · rw [if_neg e, updH_ne (Ne.symm e)]
theorem hlF_congr {h h' : Hld} {n : Nat} (e : ∀ k, k < n → h' k = h k) : hlF h' n = hlF h n := by
  unfold hlF
  exact List.map_congr_left fun k hk => by rw [e k (List.mem_range.1 hk)]

theorem HpOK.sub {lt : Nat → Nat → Prop} {h : Hld} : ∀ {t : FT} {s : Nat}, HpOK lt h t s → ∀ p ∈ t.subs s, HpOK lt h p.1 p.2
  | .leaf a, s, ok, p, hp => by
    have : p = (.leaf a, s) := by simpa [FT.subs] using hp
    subst this; exact ok
  | .node l r, s, ok, p, hp => by
    simp only [FT.subs, List.mem_append, List.mem_singleton] at hp
    rcases hp with (hp | hp) | hp
    · exact HpOK.sub ok.2.2.1 p hp
    · exact HpOK.sub ok.2.2.2 p hp
    · subst hp; exact ok
/-- a node's tree is a heap too -/
theorem HpWF.at_ {R : List Pt} {h : Hld} (H : HpWF R h) {t : FT} {s : Nat} (ha : FT.At (nds R.length) t s) : HpOK (ltI R) h t s ∧ t.wf ∧ t.hi ≤ R.length := by
  have h0 := nds_pos ha
  obtain ⟨w1, w2, w3⟩ := mkT_spec 0 R.length h0
  have hm := FT.at_mem (nds_eq h0 ▸ ha)
  exact ⟨(H.ok h0).sub _ hm, FT.subs_wf _ 0 w1 _ hm, Nat.le_trans (FT.subs_hi _ 0 w1 (t, s) hm) (by omega)⟩
theorem HpWF.pl {R : List Pt} {h : Hld} (H : HpWF R h) {k i : Nat} (hk : k < (nds R.length).length) (e : h k = some i) : i < R.length := by
  obtain ⟨t, s, ha, hts⟩ := nds_get hk
  obtain ⟨h1, h2, h3⟩ := H.at_ ha
  rw [← hts] at e
  obtain ⟨L, eL⟩ := held_root e
  have := h1.span h2 i (by rw [eL]; simp)
  omega

/-- the values that a heap's cells hold -/
structure HepV where
  rv : Value
  xv : Value
  nv : Value
  hv : Value
  fv : Value

abbrev hepB (rv xv : Value) (fb : Nat) (nv hv : Value) (n : Int) : Obj := .cells #[rv, xv, .pointer (some ⟨fb, 0, none⟩), nv, hv, .int .i64 n] 90 (0, 0)

/-- a heap as it lies; its blocks lie from lo on, ahead of hi -/
structure HptAt (w : World) (lo hi tb fb : Nat) (R : List Pt) (h : Hld) (cnt : Int) (V : HepV) : Prop where
  blk : w.heap[tb]? = some (hepB V.rv V.xv fb V.nv V.hv cnt)
  tbr : lo ≤ tb ∧ tb < hi ∧ lo ≤ fb ∧ fb < hi ∧ hi ≤ w.heap.size
  row : w.ownsRow lo 34 3 V.rv R.length (R.flatMap ePt)
  xs : w.ownsRow lo 2 1 V.xv R.length ((xsR R).map (Value.int .i64))
  frm : FrmAt w lo fb R.length V.fv
  nod : w.ownsRow lo 119 7 V.nv (nds R.length).length ((nds R.length).flatMap eNd)
  hld : w.ownsRow lo 3 1 V.hv (nds R.length).length (hlF h (nds R.length).length)
  top : ∀ v, v = V.rv ∨ v = V.xv ∨ v = V.nv ∨ v = V.hv ∨ v = V.fv → ∀ g, v.ownBlock = some g → g < hi

section
variable {w w' : World} {lo hi tb fb : Nat} {R : List Pt} {h : Hld} {cnt : Int} {V : HepV}
theorem HptAt.congr {h' : Hld} (H : HptAt w lo hi tb fb R h cnt V) (e : ∀ k, k < (nds R.length).length → h' k = h k) : HptAt w lo hi tb fb R h' cnt V :=
  ⟨H.blk, H.tbr, H.row, H.xs, H.frm, H.nod, by rw [hlF_congr e]; exact H.hld, H.top⟩
/-- what lies elsewhere may change -/
theorem HptAt.kept {S : Nat → Prop} (H : HptAt w lo hi tb fb R h cnt V) (K : KpS S w w') (hS : ∀ k, lo ≤ k → k < hi → ¬ S k) : HptAt w' lo hi tb fb R h cnt V := by
  have ht := H.top
  have hr : ∀ {e : TypeId} {sz : Nat} {v : Value} {n : Nat} {xs : List Value}, w.ownsRow lo e sz v n xs → (∀ g, v.ownBlock = some g → g < hi) → w'.ownsRow lo e sz v n xs := fun hr hv => rowK hr K fun g e => hS g (hr.lt g e).1 (hv g e)
  exact ⟨blkK K H.blk (hS tb H.tbr.1 H.tbr.2.1), ⟨H.tbr.1, H.tbr.2.1, H.tbr.2.2.1, H.tbr.2.2.2.1, Nat.le_trans H.tbr.2.2.2.2 K.size⟩,
    hr H.row (ht _ (by simp)), hr H.xs (ht _ (by simp)),
    ⟨blkK K H.frm.blk (hS fb H.tbr.2.2.1 H.tbr.2.2.2.1), hr H.frm.row (ht _ (by simp))⟩, hr H.nod (ht _ (by simp)), hr H.hld (ht _ (by simp)), H.top⟩
theorem HptAt.below {B : Nat} (H : HptAt w lo hi tb fb R h cnt V) (hb : Below B w w') (hB : hi ≤ B) : HptAt w' lo hi tb fb R h cnt V :=
  H.kept (S := fun k => hi ≤ k) ⟨hb.os, hb.tape, hb.output, hb.size, fun k hk hn => hb.block k (by omega)⟩ fun k h1 h2 h3 => by omega
theorem HptAt.tbl (H : HptAt w lo hi tb fb R h cnt V) : tb < w.heap.size := Nat.lt_of_lt_of_le H.tbr.2.1 H.tbr.2.2.2.2

/-- the nodes, by index -/
theorem HptAt.nodes (H : HptAt w lo hi tb fb R h cnt V) (h0 : 0 < R.length) : ∃ g off c, V.nv = .slice (some ⟨g, off, none⟩) (nds R.length).length c ∧ RdK eNd 7 w (some ⟨g, off, none⟩) (nds R.length) := by
  have hl := nds_len R.length
  obtain ⟨g, c, e, _⟩ := ownRow_at H.nod (by omega)
  obtain ⟨a, c', e', -, -, hr⟩ := RdK.of_owns eNd_len (by decide) H.nod
  rw [e] at e'
  injection e' with e1 e2 e3
  rw [← e1] at hr
  exact ⟨g, 0, c, e, hr⟩
/-- what the nodes hold, by index -/
theorem HptAt.holds (H : HptAt w lo hi tb fb R h cnt V) (h0 : 0 < R.length) : ∃ g c, V.hv = .slice (some ⟨g, 0, none⟩) (nds R.length).length c ∧ lo ≤ g ∧ g < hi ∧ g ≠ tb ∧ g ≠ fb ∧ g < w.heap.size ∧ (∀ k, k < (nds R.length).length → w.cell? ⟨g, k, none⟩ = some (.int .i64 (eHo (h k))) ∧ w.frozen? ⟨g, k, none⟩ = false) ∧
    (∀ g', V.rv.ownBlock = some g' → g' ≠ g) ∧ (∀ g', V.xv.ownBlock = some g' → g' ≠ g) ∧ (∀ g', V.nv.ownBlock = some g' → g' ≠ g) ∧ ∀ g', V.fv.ownBlock = some g' → g' ≠ g := by
  have hl := nds_len R.length
  obtain ⟨g, c, e, hlo, hg, hc1, hc2⟩ := ownRow_at H.hld (by omega)
  have hh := H.hld
  rw [e] at hh
  have hob : (Value.slice (some ⟨g, 0, none⟩) (nds R.length).length c).ownBlock = some g := rfl
  have ne : ∀ {e' : TypeId} {sz n : Nat} {v : Value} {xs : List Value}, w.ownsRow lo e' sz v n xs → e' ≠ 3 → ∀ g', v.ownBlock = some g' → g' ≠ g := fun hr hne g' h1 h2 => rows_ne hr hh hne g' h1 (h2 ▸ hob)
  refine ⟨g, c, e, (hh.lt g rfl).1, H.top V.hv (by simp) g (by rw [e]; rfl), fun h9 => row_ne hh H.blk (by decide) g rfl h9.symm, fun h9 => row_ne hh H.frm.blk (by decide) g rfl h9.symm, (hh.lt g rfl).2, fun k hk => ⟨?_, hh.frozenAt k⟩, ne H.row (by decide), ne H.xs (by decide), ne H.nod (by decide), ne H.frm.row (by decide)⟩
  have h1 := hh.cellAt k (by omega)
  rw [hlF_get h hk] at h1
  exact h1

/-- one node holds another place -/
theorem HptAt.setHold (H : HptAt w lo hi tb fb R h cnt V) {g n c : Nat} (hv : V.hv = .slice (some ⟨g, 0, none⟩) n c) {k : Nat} (hk : k < (nds R.length).length) (v : Option Nat) :
    HptAt (w.setCell ⟨g, k, none⟩ (.int .i64 (eHo v))) lo hi tb fb R (updH h k v) cnt V := by
  have K : KpS (fun k => k = g) w (w.setCell ⟨g, k, none⟩ (.int .i64 (eHo v))) := (KpS.refl (fun k => k = g) w).set (a := ⟨g, k, none⟩) _ (.inl rfl)
  have hr := H.hld
  rw [hv] at hr
  have hn : n = (nds R.length).length := by
    rcases hr.2 with ⟨e9, -⟩ | ⟨g', cap, cur, e9, -⟩
    · cases e9
    · injection e9 with _ e9 _
  subst hn
  obtain ⟨cs, fr, hg⟩ := ownBlk hr
  have hs := (hr.stored k (.int .i64 (eHo v))).1
  rw [hlF_set h hk v] at hs
  refine ⟨blkT H.blk K hg (by decide), by simpa using H.tbr, rowT H.row K hg (by decide), rowT H.xs K hg (by decide), frmT H.frm K hg (by decide) (by decide), rowT H.nod K hg (by decide), ?_, H.top⟩
  rw [hv]
  exact hs
theorem HptAt.setCnt (H : HptAt w lo hi tb fb R h cnt V) (m : Int) : HptAt (w.setCell ⟨tb, 5, none⟩ (.int .i64 m)) lo hi tb fb R h m V := by
  have K : KpS (fun k => k = tb) w (w.setCell ⟨tb, 5, none⟩ (.int .i64 m)) := (KpS.refl (fun k => k = tb) w).set (a := ⟨tb, 5, none⟩) _ (.inl rfl)
  have hg := H.blk
  exact ⟨heap_setCell_same w tb 5 _ _ _ H.blk, by simpa using H.tbr, rowT H.row K hg (by decide), rowT H.xs K hg (by decide), frmT H.frm K hg (by decide) (by decide), rowT H.nod K hg (by decide), rowT H.hld K hg (by decide), H.top⟩
end

set_option maxRecDepth 100000 in
theorem heap_len {w : World} {lo hi tb fb : Nat} {cnt : Int} {R : List Pt} {h : Hld} {V : HepV} (H : HptAt w lo hi tb fb R h cnt V) :
    Calls Tryz.prog 18 #[.pointer (some ⟨tb, 0, none⟩)] w fun e w' => e = .returned (.int .i64 cnt) ∧ w' = w := by
  have hb := H.blk
  have c5 : w.cell? ⟨tb, 5, none⟩ = some (.int .i64 cnt) := by simp [World.cell?, hb]
  clear hb H
  go_enter Tryz.func18, Tryz.ntmps18
  go_wp2
  go_ret
  exact ⟨rfl, rfl⟩
set_option maxRecDepth 100000 in
theorem heap_len_nil (w : World) : Calls Tryz.prog 18 #[.pointer none] w fun e w' => e = .returned (.int .i64 0) ∧ w' = w := by
  go_enter Tryz.func18, Tryz.ntmps18
  go_wp2
  go_ret
  exact ⟨rfl, rfl⟩
end Go.Proofs.YtggfdlanobndjaaGreat
