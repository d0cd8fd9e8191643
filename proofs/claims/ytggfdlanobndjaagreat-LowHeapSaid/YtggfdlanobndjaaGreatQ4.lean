/- Several texts in one: May, Cmp, Pt, SortK, PtS, Pnw, Ppt, Lay, Onc, Frm, Pth, Tld, RankA, Csa, Rpt. -/
import Derived.Test.YtggfdlanobndjaaGreatQ3
import Derived.Test.YtggfdlanobndjaaGreatQ1
import Derived.StillTailTactics
import Derived.Sort.Grow
import Derived.Laws.OwnMore
import Derived.Shelf.SlSortCmp.WholeK
import Derived.Shelf.SlSortCmp.NoneTotal
import Derived.Lib.Hide
import Derived.Test.YtggfdlanobndjaaGreatShelf
import Derived.WalkSpells
import Derived.Outline
import Derived.Tactics2
import Derived.Defers
import Derived.Laws.Pointers
import Derived.Laws.LoneSync
import Derived.RegionTactic
import Derived.RegionCalls
import Derived.ChangeAlike
import Derived.Deep.LoopGhost
import Derived.Deep.CutBlock
import Derived.Deep.CutRange

/- pool.may: a leaf may be put; a node over two that are nobody's kids may be put. -/
namespace Go.Proofs.YtggfdlanobndjaaGreat
open Go.RowKit Go.Shelf
attribute [local go_sem] Oper.semAt_some
set_option linter.unusedSimpArgs false
set_option linter.unusedVariables false

/-- a kid that is nobody's -/
abbrev Free (kid : List Bool) := { q : Nat // q < kid.length ∧ kid[q]? = some false }

def MayI (w0 : World) (nd : Array Value) (kv : Value) (base : Nat) (kid : List Bool) (pre : List (Free kid)) (W : World) : Prop :=
  W.heap[w0.heap.size]? = some (.cells nd 119 (0, 0)) ∧ W.heap[w0.heap.size + 1]? = some (.cells #[kv] 48 (0, 0)) ∧ W.heap[w0.heap.size + 2]? = some (.cells #[.bool false] 4 (0, 0)) ∧ W.heap[w0.heap.size + 3]? = some (.cells #[.int .i64 pre.length] 3 (0, 0)) ∧ W.ownsRow base 4 1 kv kid.length (kid.map Value.bool) ∧ Below w0.heap.size w0 W
theorem mayI_own {w0 : World} {B base : Nat} {nd : Array Value} {kv : Value} {kid : List Bool} (hB : w0.heap.size ≤ B) : OwnFrom B (MayI w0 nd kv base kid) := by
  rintro s W W' row ⟨h0, h1, h2, h3, h4, h5⟩ hg hr
  have hne : ∀ (b : Nat) cs t fr, W.heap[b]? = some (.cells cs t fr) → W'.heap[b]? = W.heap[b]? := fun b cs t fr hb => hg.block b (Array.getElem?_eq_some_iff.1 hb).1 fun e => by
    obtain ⟨-, o, ho, hc⟩ := hr b e.symm
    rw [hb] at ho
    injection ho with ho
    subst ho
    cases hc
  refine ⟨(hne _ _ _ _ h0).trans h0, (hne _ _ _ _ h1).trans h1, (hne _ _ _ _ h2).trans h2, (hne _ _ _ _ h3).trans h3, owns_sameH h4 fun gb e => ?_, h5.grown hg h5.size fun k e => Nat.le_trans hB (hr k e).1⟩
  rcases h4.2 with ⟨rfl, _⟩ | ⟨g9, cap, cur, rfl, _, hh, _⟩
  · cases e
  · simp only [Value.ownBlock, Option.some.injEq] at e
    subst e
    exact hne _ _ _ _ hh

set_option maxRecDepth 100000 in
set_option maxHeartbeats 4000000 in
theorem may_two_in (F : Fence) (n : Nat) (hF : F.fn 158) (hFk : F.fn 167) (hFk1 : F.fn 176) (hro : F.round = none) (hn : 3 ≤ n) (f t it : Int) (i j : Nat) (hij : i ≠ j) (g m cp base : Nat) (kid : List Bool) (w : World) (hk : kid.length = m) (hm : m ≤ 100000) (hi : kid[i]? = some false) (hj : kid[j]? = some false)
    (hrow : w.ownsRow base 4 1 (.slice (some ⟨g, 0, none⟩) m cp) m (kid.map Value.bool)) :
    CallsIn F n Tryz.prog 158 #[vNd 2 i j f t it, .slice (some ⟨g, 0, none⟩) m cp] w fun e w' => e = .returned (.bool true) ∧ Below w.heap.size w w' := by
  have h1 : 1 ≤ n := by omega
  subst hk
  have HR := Lib.hid hrow
  have hg : g < w.heap.size := (hrow.lt g rfl).2
  refine callsIn_of_wp_marks Tryz.func158 rfl hF ?_ hro
  simp only [Tryz.ntmps158, List.size_toArray, List.length_cons, List.length_nil, Nat.reduceAdd, Nat.reduceSub, Array.replicate_succ, Array.replicate_zero, List.push_toArray, List.append_toArray, List.nil_append, List.cons_append]
  gi_wp2_with (gi_at_call 167; refine (kids_in F (n - 1) hFk hro _ _ _ _ _ _ _).mono ?_; rintro e w' ⟨rfl, rfl⟩)
  obtain ⟨wk, hwk⟩ : ∃ wk, wk = ((((w.alloc (objNd 2 i j f t it)).alloc (.cells #[.slice (some ⟨g, 0, none⟩) kid.length cp] 48)).alloc (.cells #[.bool false] 4)).alloc (.cells #[.int .i64 0] 3)).alloc (objNd 2 i j f t it) := ⟨_, rfl⟩
  have hB : Below w.heap.size w wk := by rw [hwk]; exact (((((Below.refl _ w).alloc (Nat.le_refl _) _).alloc (by simp) _).alloc (by simp; omega) _).alloc (by simp; omega) _).alloc (by simp; omega) _
  have hsz : wk.heap.size = w.heap.size + 5 := by rw [hwk]; simp
  have hb0 : wk.heap[w.heap.size]? = some (.cells #[.int .u8 2, .int .i64 i, .int .i64 j, .int .i64 f, .int .i64 t, .int .i64 0, .int .i64 it] 119 (0, 0)) := by
    rw [hwk]
    exact (Below.heap_alloc _ _ _ (by first | (simp; done) | (simp; omega))).trans ((Below.heap_alloc _ _ _ (by first | (simp; done) | (simp; omega))).trans ((Below.heap_alloc _ _ _ (by first | (simp; done) | (simp; omega))).trans (lit1 w _ _)))
  have hb1 : wk.heap[w.heap.size + 1]? = some (.cells #[.slice (some ⟨g, 0, none⟩) kid.length cp] 48 (0, 0)) := by
    rw [hwk]
    exact (Below.heap_alloc _ _ _ (by simp)).trans ((Below.heap_alloc _ _ _ (by simp)).trans ((Below.heap_alloc _ _ _ (by simp)).trans (lit2 w _ _)))
  have hb2 : wk.heap[w.heap.size + 2]? = some (.cells #[.bool false] 4 (0, 0)) := by
    rw [hwk]
    have h9 := lit0 ((w.alloc (objNd 2 i j f t it)).alloc (.cells #[.slice (some ⟨g, 0, none⟩) kid.length cp] 48)) (.cells #[.bool false] 4)
    rw [show ((w.alloc (objNd 2 i j f t it)).alloc (.cells #[.slice (some ⟨g, 0, none⟩) kid.length cp] 48)).heap.size = w.heap.size + 2 by simp] at h9
    exact (Below.heap_alloc _ _ _ (by simp)).trans ((Below.heap_alloc _ _ _ (by simp)).trans h9)
  have hb3 : wk.heap[w.heap.size + 3]? = some (.cells #[.int .i64 0] 3 (0, 0)) := by
    rw [hwk]
    have h9 := lit0 (((w.alloc (objNd 2 i j f t it)).alloc (.cells #[.slice (some ⟨g, 0, none⟩) kid.length cp] 48)).alloc (.cells #[.bool false] 4)) (.cells #[.int .i64 0] 3)
    rw [show (((w.alloc (objNd 2 i j f t it)).alloc (.cells #[.slice (some ⟨g, 0, none⟩) kid.length cp] 48)).alloc (.cells #[.bool false] 4)).heap.size = w.heap.size + 3 by simp] at h9
    exact (Below.heap_alloc _ _ _ (by simp)).trans h9
  have hn1 : wk.cell? ⟨w.heap.size + 1 + 1 + 1 + 1, 1, none⟩ = some (.int .i64 i) := by
    rw [hwk, World.cell?_alloc_at _ _ _ _ (by simp)]; rfl
  have hn2 : wk.cell? ⟨w.heap.size + 1 + 1 + 1 + 1, 2, none⟩ = some (.int .i64 j) := by
    rw [hwk, World.cell?_alloc_at _ _ _ _ (by simp)]; rfl
  rw [← hwk]
  have HI0 : Hid (MayI w #[.int .u8 2, .int .i64 i, .int .i64 j, .int .i64 f, .int .i64 t, .int .i64 0, .int .i64 it] (.slice (some ⟨g, 0, none⟩) kid.length cp) base kid [] wk) := ⟨hb0, hb1, hb2, hb3, ownsRow_below HR.out hB, hB⟩
  have HWK := Lib.hid hwk
  have hil := (List.getElem?_eq_some_iff.1 hi).1
  have hjl := (List.getElem?_eq_some_iff.1 hj).1
  clear hwk hB hb0 hb1 hb2 hb3 hrow
  refine wpIn_rangeFunc_ownF hro h1 (gf := 176) (lb := #[.pointer (some ⟨w.heap.size + 1 + 1 + 1 + 1, 0, none⟩)]) rfl hFk1 (enters_of Tryz.func176 (by kernel_rfl) rfl)
    (kids_two (α := Free kid) (fun x => (x.1 : Int)) ⟨i, hil, hi⟩ ⟨j, hjl, hj⟩ F (n - 1) hFk1 hro (by omega) (w.heap.size + 1 + 1 + 1 + 1) wk (by omega) hn1 hn2 (by simp) (by simp)) KpB.trans (fun W l o o' hl _ _ _ => kpB_put (B := wk.heap.size) (by omega) W l o o' hl) (Below.refl _ _) (fun _ => rfl)
    (fun pre W => MayI w #[.int .u8 2, .int .i64 i, .int .i64 j, .int .i64 f, .int .i64 t, .int .i64 0, .int .i64 it] (.slice (some ⟨g, 0, none⟩) kid.length cp) base kid pre W)
    (fun _ _ _ => False)
    (mayI_own (by omega))
    (fun _ _ _ _ _ hs _ _ => hs)
    HI0.out
    (fun x => { tmps := #[vNd 2 i j f t it, .slice (some ⟨g, 0, none⟩) kid.length cp, .pointer (some ⟨w.heap.size, 0, none⟩), .pointer (some ⟨w.heap.size + 1, 0, none⟩), .pointer (some ⟨w.heap.size + 1 + 1, 0, none⟩), .pointer (some ⟨w.heap.size + 1 + 1 + 1, 0, none⟩), .int .i64 x.1, vNd 2 i j f t it, .func (.func 176) #[] #[.pointer (some ⟨w.heap.size + 1 + 1 + 1 + 1, 0, none⟩)], .int .i64 x.1, undef, undef, undef, undef, undef, undef, undef, undef, undef, undef, undef, undef, undef, undef, undef, undef, undef, undef, undef, undef, undef, undef, undef, undef, undef, undef, undef, undef, undef, undef, undef, undef, undef], defers := [] }) ?assign ?body ?done ?stop
  case assign =>
    intro l x W K hK
    gi_wp2
    exact hK
  case body =>
    rintro l pre ⟨q, hq, hqf⟩ W ⟨hb0, hb1, hb2, hb3, hr, hbel⟩ hpl
    have c1 : W.cell? ⟨w.heap.size + 1, 0, none⟩ = some (.slice (some ⟨g, 0, none⟩) kid.length cp) := by simp [World.cell?, hb1]
    have c3 : W.cell? ⟨w.heap.size + 1 + 1 + 1, 0, none⟩ = some (.int .i64 pre.length) := by simp [World.cell?, hb3]
    have f3 : W.frozen? ⟨w.heap.size + 1 + 1 + 1, 0, none⟩ = false := by simp [World.frozen?, hb3]
    have z := hr.cellAt q (by omega)
    rw [List.getElem?_map, hqf] at z
    simp only [Option.map_some] at z
    have hq2 : (q : Int) < (kid.length : Int) := by omega
    have dq : decide ((q : Int) < 0) = false := by simp
    have dq2 : decide (kid.length ≤ q) = false := by simp; omega
    have HB0 := Lib.hid hb0
    have HBX := Lib.hid hb1
    have HB2 := Lib.hid hb2
    have HB3 := Lib.hid hb3
    have HRR := Lib.hid hr
    have HBL := Lib.hid hbel
    clear hb0 hb1 hb2 hb3 hr hbel HI0
    gi_wp2
    refine ⟨KeepsOthers.setCell _ _ _, fun o => World.cell?_of_block (heap_setNe (by first | (simp; done) | (simp; omega))), (heap_setNe (by first | (simp; done) | (simp; omega))).trans HB0.out, (heap_setNe (by first | (simp; done) | (simp; omega))).trans HBX.out, (heap_setNe (by first | (simp; done) | (simp; omega))).trans HB2.out, ?_, owns_sameH HRR.out (fun gb e => heap_setNe (by have h9 : g = gb := (by injection e); simp; omega)), HBL.out.setCell (p := ⟨w.heap.size + 1 + 1 + 1, 0, none⟩) (by simp; omega) _⟩
    rw [heap_setCell_same W (w.heap.size + 3) 0 _ _ _ HB3.out]
    simp
  case done =>
    rintro D ys W hD rfl ⟨hb0, hb1, hb2, hb3, hr, hbel⟩ hK
    have n0 : W.cell? ⟨w.heap.size, 0, none⟩ = some (.int .u8 2) := by simp [World.cell?, hb0]
    have n1 : W.cell? ⟨w.heap.size, 1, none⟩ = some (.int .i64 i) := by simp [World.cell?, hb0]
    have n2 : W.cell? ⟨w.heap.size, 2, none⟩ = some (.int .i64 j) := by simp [World.cell?, hb0]
    have c2 : W.cell? ⟨w.heap.size + 1 + 1, 0, none⟩ = some (.bool false) := by simp [World.cell?, hb2]
    have f2 : W.frozen? ⟨w.heap.size + 1 + 1, 0, none⟩ = false := by simp [World.frozen?, hb2]
    have c3 : W.cell? ⟨w.heap.size + 1 + 1 + 1, 0, none⟩ = some (.int .i64 2) := by simp [World.cell?, hb3]
    have dij : ((i : Int) != (j : Int)) = true := by simp; omega
    have HK := Lib.hid hK
    have HBL := Lib.hid hbel
    clear hb0 hb1 hb2 hb3 hr hbel hK HI0
    gi_wp2
    have hK' := (KeepsOthers.setCell W ⟨w.heap.size + 1 + 1, 0, none⟩ (.bool true)).same D _ HK.out rfl
    refine ⟨by simp, .inl ⟨_, _, rfl, run_takeDeferred hK', ?_⟩⟩
    have hc5 := cell_kept (World.cell?_setCell_same' W ⟨w.heap.size + 1 + 1, 0, none⟩ (.bool true) (by rw [c2]; rfl)) (grownBy_putObj' _ D (.deferred none)) (fun r e => by cases e; exact ⟨_, hK', rfl⟩)
    refine ⟨.bool true, ?_, rfl, (HBL.out.setCell (p := ⟨w.heap.size + 1 + 1, 0, none⟩) (by first | (simp; done) | (simp; omega)) _).trans (belowK_b (w := w) (Nat.le_refl _) _ D _ _ (by omega) hK' rfl rfl)⟩
    simp [results, Tryz.f158, go_sem, hc5]
  case stop =>
    rintro D c pre W _ _ h _
    exact h.elim

theorem may_two (f t it : Int) (i j : Nat) (hij : i ≠ j) (g m cp base : Nat) (kid : List Bool) (w : World) (hk : kid.length = m) (hm : m ≤ 100000) (hi : kid[i]? = some false) (hj : kid[j]? = some false)
    (hrow : w.ownsRow base 4 1 (.slice (some ⟨g, 0, none⟩) m cp) m (kid.map Value.bool)) :
    Calls Tryz.prog 158 #[vNd 2 i j f t it, .slice (some ⟨g, 0, none⟩) m cp] w fun e w' => e = .returned (.bool true) ∧ Below w.heap.size w w' := by
  refine (callsIn_wide (n := 3)).1 ?_
  exact may_two_in _ 3 trivial trivial trivial rfl (by decide) f t it i j hij g m cp base kid w hk hm hi hj hrow

/-- at a leaf: nothing is asked of the kids -/
def MayL (w0 : World) (nd : Array Value) (pre : List (Fin 0)) (W : World) : Prop :=
  W.heap[w0.heap.size]? = some (.cells nd 119 (0, 0)) ∧ W.heap[w0.heap.size + 2]? = some (.cells #[.bool false] 4 (0, 0)) ∧ W.heap[w0.heap.size + 3]? = some (.cells #[.int .i64 0] 3 (0, 0)) ∧ Below w0.heap.size w0 W
theorem mayL_own {w0 : World} {B : Nat} {nd : Array Value} (hB : w0.heap.size ≤ B) : OwnFrom B (MayL w0 nd) := by
  rintro s W W' row ⟨h0, h2, h3, h5⟩ hg hr
  have hne : ∀ (b : Nat) cs t fr, W.heap[b]? = some (.cells cs t fr) → W'.heap[b]? = W.heap[b]? := fun b cs t fr hb => hg.block b (Array.getElem?_eq_some_iff.1 hb).1 fun e => by
    obtain ⟨-, o, ho, hc⟩ := hr b e.symm
    rw [hb] at ho
    injection ho with ho
    subst ho
    cases hc
  exact ⟨(hne _ _ _ _ h0).trans h0, (hne _ _ _ _ h2).trans h2, (hne _ _ _ _ h3).trans h3, h5.grown hg h5.size fun k e => Nat.le_trans hB (hr k e).1⟩

set_option maxRecDepth 100000 in
set_option maxHeartbeats 4000000 in
theorem may_no_in (F : Fence) (n : Nat) (hF : F.fn 158) (hFk : F.fn 167) (hFk1 : F.fn 176) (hro : F.round = none) (hn : 3 ≤ n) (f t it : Int) (kv : Value) (hkv : kv.oneCell' = true) (w : World) :
    CallsIn F n Tryz.prog 158 #[vNd 1 (-1) (-1) f t it, kv] w fun e w' => e = .returned (.bool true) ∧ Below w.heap.size w w' := by
  have h1 : 1 ≤ n := by omega
  refine callsIn_of_wp_marks Tryz.func158 rfl hF ?_ hro
  simp only [Tryz.ntmps158, List.size_toArray, List.length_cons, List.length_nil, Nat.reduceAdd, Nat.reduceSub, Array.replicate_succ, Array.replicate_zero, List.push_toArray, List.append_toArray, List.nil_append, List.cons_append]
  gi_wp2_with (gi_at_call 167; refine (kids_in F (n - 1) hFk hro _ _ _ _ _ _ _).mono ?_; rintro e w' ⟨rfl, rfl⟩)
  obtain ⟨wk, hwk⟩ : ∃ wk, wk = ((((w.alloc (objNd 1 (-1) (-1) f t it)).alloc (.cells #[kv] 48)).alloc (.cells #[.bool false] 4)).alloc (.cells #[.int .i64 0] 3)).alloc (objNd 1 (-1) (-1) f t it) := ⟨_, rfl⟩
  have hB : Below w.heap.size w wk := by rw [hwk]; exact (((((Below.refl _ w).alloc (Nat.le_refl _) _).alloc (by simp) _).alloc (by simp; omega) _).alloc (by simp; omega) _).alloc (by simp; omega) _
  have hsz : wk.heap.size = w.heap.size + 5 := by rw [hwk]; simp
  have hb0 : wk.heap[w.heap.size]? = some (.cells #[.int .u8 1, .int .i64 (-1), .int .i64 (-1), .int .i64 f, .int .i64 t, .int .i64 0, .int .i64 it] 119 (0, 0)) := by
    rw [hwk]
    exact (Below.heap_alloc _ _ _ (by first | (simp; done) | (simp; omega))).trans ((Below.heap_alloc _ _ _ (by first | (simp; done) | (simp; omega))).trans ((Below.heap_alloc _ _ _ (by first | (simp; done) | (simp; omega))).trans ((Below.heap_alloc _ _ _ (by first | (simp; done) | (simp; omega))).trans (lit0 w _))))
  have hb2 : wk.heap[w.heap.size + 2]? = some (.cells #[.bool false] 4 (0, 0)) := by
    rw [hwk]
    have h9 := lit0 ((w.alloc (objNd 1 (-1) (-1) f t it)).alloc (.cells #[kv] 48)) (.cells #[.bool false] 4)
    rw [show ((w.alloc (objNd 1 (-1) (-1) f t it)).alloc (.cells #[kv] 48)).heap.size = w.heap.size + 2 by simp] at h9
    exact (Below.heap_alloc _ _ _ (by simp)).trans ((Below.heap_alloc _ _ _ (by simp)).trans h9)
  have hb3 : wk.heap[w.heap.size + 3]? = some (.cells #[.int .i64 0] 3 (0, 0)) := by
    rw [hwk]
    have h9 := lit0 (((w.alloc (objNd 1 (-1) (-1) f t it)).alloc (.cells #[kv] 48)).alloc (.cells #[.bool false] 4)) (.cells #[.int .i64 0] 3)
    rw [show (((w.alloc (objNd 1 (-1) (-1) f t it)).alloc (.cells #[kv] 48)).alloc (.cells #[.bool false] 4)).heap.size = w.heap.size + 3 by simp] at h9
    exact (Below.heap_alloc _ _ _ (by simp)).trans h9
  have hn1 : wk.cell? ⟨w.heap.size + 1 + 1 + 1 + 1, 1, none⟩ = some (.int .i64 (-1)) := by
    rw [hwk, World.cell?_alloc_at _ _ _ _ (by simp)]; rfl
  have hn2 : wk.cell? ⟨w.heap.size + 1 + 1 + 1 + 1, 2, none⟩ = some (.int .i64 (-1)) := by
    rw [hwk, World.cell?_alloc_at _ _ _ _ (by simp)]; rfl
  rw [← hwk]
  have HI0 : Hid (MayL w #[.int .u8 1, .int .i64 (-1), .int .i64 (-1), .int .i64 f, .int .i64 t, .int .i64 0, .int .i64 it] [] wk) := ⟨hb0, hb2, hb3, hB⟩
  have HWK := Lib.hid hwk
  clear hwk hB hb0 hb2 hb3
  refine wpIn_rangeFunc_ownF hro h1 (gf := 176) (lb := #[.pointer (some ⟨w.heap.size + 1 + 1 + 1 + 1, 0, none⟩)]) rfl hFk1 (enters_of Tryz.func176 (by kernel_rfl) rfl)
    (kids_no (α := Fin 0) (fun x => (x.1 : Int)) F (n - 1) hFk1 hro (by omega) (w.heap.size + 1 + 1 + 1 + 1) wk (by omega) hn1 hn2) KpB.trans (fun W l o o' hl _ _ _ => kpB_put (B := wk.heap.size) (by omega) W l o o' hl) (Below.refl _ _) (fun _ => rfl)
    (fun pre W => MayL w #[.int .u8 1, .int .i64 (-1), .int .i64 (-1), .int .i64 f, .int .i64 t, .int .i64 0, .int .i64 it] pre W)
    (fun _ _ _ => False)
    (mayL_own (by omega))
    (fun _ _ _ _ _ hs _ _ => hs)
    HI0.out
    (fun x => { tmps := #[vNd 1 (-1) (-1) f t it, kv, .pointer (some ⟨w.heap.size, 0, none⟩), .pointer (some ⟨w.heap.size + 1, 0, none⟩), .pointer (some ⟨w.heap.size + 1 + 1, 0, none⟩), .pointer (some ⟨w.heap.size + 1 + 1 + 1, 0, none⟩), .int .i64 x.1, vNd 1 (-1) (-1) f t it, .func (.func 176) #[] #[.pointer (some ⟨w.heap.size + 1 + 1 + 1 + 1, 0, none⟩)], .int .i64 x.1, undef, undef, undef, undef, undef, undef, undef, undef, undef, undef, undef, undef, undef, undef, undef, undef, undef, undef, undef, undef, undef, undef, undef, undef, undef, undef, undef, undef, undef, undef, undef, undef, undef], defers := [] }) ?assign ?body ?done ?stop
  case assign =>
    intro l x W K hK
    gi_wp2
    exact hK
  case body =>
    intro l pre x W _ h
    exact absurd x.2 (Nat.not_lt_zero _)
  case done =>
    rintro D ys W hD rfl ⟨hb0, hb2, hb3, hbel⟩ hK
    have n0 : W.cell? ⟨w.heap.size, 0, none⟩ = some (.int .u8 1) := by simp [World.cell?, hb0]
    have n1 : W.cell? ⟨w.heap.size, 1, none⟩ = some (.int .i64 (-1)) := by simp [World.cell?, hb0]
    have n2 : W.cell? ⟨w.heap.size, 2, none⟩ = some (.int .i64 (-1)) := by simp [World.cell?, hb0]
    have c2 : W.cell? ⟨w.heap.size + 1 + 1, 0, none⟩ = some (.bool false) := by simp [World.cell?, hb2]
    have f2 : W.frozen? ⟨w.heap.size + 1 + 1, 0, none⟩ = false := by simp [World.frozen?, hb2]
    have c3 : W.cell? ⟨w.heap.size + 1 + 1 + 1, 0, none⟩ = some (.int .i64 0) := by simp [World.cell?, hb3]
    have HK := Lib.hid hK
    have HBL := Lib.hid hbel
    clear hb0 hb2 hb3 hbel hK HI0
    gi_wp2
    have hK' := (KeepsOthers.setCell W ⟨w.heap.size + 1 + 1, 0, none⟩ (.bool true)).same D _ HK.out rfl
    refine ⟨by simp, .inl ⟨_, _, rfl, run_takeDeferred hK', ?_⟩⟩
    have hc5 := cell_kept (World.cell?_setCell_same' W ⟨w.heap.size + 1 + 1, 0, none⟩ (.bool true) (by rw [c2]; rfl)) (grownBy_putObj' _ D (.deferred none)) (fun r e => by cases e; exact ⟨_, hK', rfl⟩)
    refine ⟨.bool true, ?_, rfl, (HBL.out.setCell (p := ⟨w.heap.size + 1 + 1, 0, none⟩) (by first | (simp; done) | (simp; omega)) _).trans (belowK_b (w := w) (Nat.le_refl _) _ D _ _ (by omega) hK' rfl rfl)⟩
    simp [results, Tryz.f158, go_sem, hc5]
  case stop =>
    rintro D c pre W _ _ h _
    exact h.elim
theorem may_no (f t it : Int) (kv : Value) (hkv : kv.oneCell' = true) (w : World) :
    Calls Tryz.prog 158 #[vNd 1 (-1) (-1) f t it, kv] w fun e w' => e = .returned (.bool true) ∧ Below w.heap.size w w' := by
  refine (callsIn_wide (n := 3)).1 ?_
  exact may_no_in _ 3 trivial trivial trivial rfl (by decide) f t it kv hkv w

end Go.Proofs.YtggfdlanobndjaaGreat

/- cmp.Compare at int64 and uint32. -/
namespace Go.Proofs.YtggfdlanobndjaaGreat
open Go.RowKit

def cmpI (x y : Int) : Int := if x < y then -1 else if y < x then 1 else 0

theorem cmpI_bd (x y : Int) : -1 ≤ cmpI x y ∧ cmpI x y ≤ 1 := by unfold cmpI; split <;> (try split) <;> omega

/-- how two keys stand -/
theorem cmpLong (x y : Int) (w : World) : Calls Tryz.prog 113 #[.int .i64 x, .int .i64 y] w fun e w' => e = .returned (.int .i64 (cmpI x y)) ∧ w' = w := by
  unfold cmpI
  rcases Int.lt_trichotomy x y with h | rfl | h
  · rw [if_pos h]
    go_enter Tryz.func113, Tryz.ntmps113
    go_wp2
    go_ret
    exact ⟨rfl, rfl⟩
  · rw [if_neg (Int.lt_irrefl _), if_neg (Int.lt_irrefl _)]
    go_enter Tryz.func113, Tryz.ntmps113
    go_wp2
    go_ret
    exact ⟨rfl, rfl⟩
  · rw [if_neg (by omega), if_pos h]
    have h2 : y ≤ x := by omega
    go_enter Tryz.func113, Tryz.ntmps113
    go_wp2
    go_ret
    exact ⟨rfl, rfl⟩

theorem cmpName (x y : Int) (w : World) : Calls Tryz.prog 114 #[.int .u32 x, .int .u32 y] w fun e w' => e = .returned (.int .i64 (cmpI x y)) ∧ w' = w := by
  unfold cmpI
  rcases Int.lt_trichotomy x y with h | rfl | h
  · rw [if_pos h]
    go_enter Tryz.func114, Tryz.ntmps114
    go_wp2
    go_ret
    exact ⟨rfl, rfl⟩
  · rw [if_neg (Int.lt_irrefl _), if_neg (Int.lt_irrefl _)]
    go_enter Tryz.func114, Tryz.ntmps114
    go_wp2
    go_ret
    exact ⟨rfl, rfl⟩
  · rw [if_neg (by omega), if_pos h]
    have h2 : y ≤ x := by omega
    go_enter Tryz.func114, Tryz.ntmps114
    go_wp2
    go_ret
    exact ⟨rfl, rfl⟩


end Go.Proofs.YtggfdlanobndjaaGreat

/- Points in memory; package item: ByX, Over. -/
namespace Go.Proofs.YtggfdlanobndjaaGreat
open Go.RowKit

def ePt (p : Pt) : List Value := [.int .i64 p.1, .int .i64 p.2.1, .int .u32 p.2.2]
theorem ePt_len (p : Pt) : (ePt p).length = 3 := rfl
theorem ePt_one (p : Pt) : ∀ u ∈ ePt p, u.oneCell' = true := by intro u hu; simp [ePt] at hu; rcases hu with rfl | rfl | rfl <;> rfl
abbrev vPt (x y i : Int) : Value := .agg #[.int .i64 x, .int .i64 y, .int .u32 i]

/-- draws, and new blocks behind -/
def Grw (w w' : World) : Prop := ∃ q os, w' = Sort.grow (w.drewN q) os
theorem Grw.refl (w : World) : Grw w w := ⟨0, #[], by rw [Sort.grow_empty]; rfl⟩
theorem Grw.alloc {w w' : World} (h : Grw w w') (o : Obj) : Grw w (w'.alloc o) := by
  obtain ⟨q, os, rfl⟩ := h
  exact ⟨q, os.push o, by simp [Sort.grow, World.alloc, World.drewN]⟩
theorem Grw.drew {w w' : World} (h : Grw w w') : Grw w w'.drew := by
  obtain ⟨q, os, rfl⟩ := h
  exact ⟨q + 1, os, rfl⟩
theorem Grw.below {w w' : World} (h : Grw w w') {B : Nat} (hB : B ≤ w.heap.size) : Below B w w' := by
  obtain ⟨q, os, rfl⟩ := h
  refine ⟨rfl, rfl, rfl, by simp [Sort.grow, World.drewN], fun k hk => ?_⟩
  show (w.heap ++ os)[k]? = _
  rw [Array.getElem?_append_left (by omega)]

def ordX (p q : Pt) : Int := if cmpI p.1 q.1 = 0 then cmpI p.2.2 q.2.2 else cmpI p.1 q.1
theorem ordX_lt (p q : Pt) : ordX p q < 0 ↔ ltX p q := by
  unfold ordX ltX cmpI
  repeat' split
  all_goals omega
theorem ordX_eq (p q : Pt) : ordX p q = 0 ↔ p.1 = q.1 ∧ p.2.2 = q.2.2 := by
  unfold ordX cmpI
  repeat' split
  all_goals omega

set_option maxHeartbeats 400000 in
theorem iFirst (a b : Int) (w : World) (n : Nat) (h0 : w.cell? ⟨n, 0, none⟩ = some (.int .i64 a)) (h1 : w.cell? ⟨n, 1, none⟩ = some (.int .i64 b)) :
    Calls Tryz.prog 112 #[.slice (some ⟨n, 0, none⟩) 2 2] w fun e w' => e = .returned (.int .i64 (if a = 0 then b else a)) ∧ w' = w := by
  by_cases ha : a = 0
  · subst ha
    rw [if_pos rfl]
    by_cases hb : b = 0
    · subst hb
      go_enter Tryz.func112, Tryz.ntmps112
      go_wp2
      go_loopw [7] (fun i wr => ∃ k : Nat, i = .int .i64 k ∧ k ≤ 2 ∧ wr = w) (fun i _ => 2 - (intOf i).toNat)
      case atStart => exact ⟨0, rfl, by omega, rfl⟩
      case round =>
        obtain ⟨k, rfl, hk, rfl⟩ := hrel
        by_cases h2 : k < 2
        · have hc : wr.cell? ⟨n, k, none⟩ = some (.int .i64 0) := by
            obtain rfl | rfl : k = 0 ∨ k = 1 := by omega
            · exact h0
            · exact h1
          clear h0 h1
          go_wp2
          go_roundw
          case rel => exact ⟨k + 1, by go_num, by omega, by first | rfl | trivial⟩
          case measure => simp [intOf]; omega
        · go_wp2
          go_ret
          exact ⟨rfl, rfl⟩
    · have hd : (b != 0) = true := by simp [hb]
      go_enter Tryz.func112, Tryz.ntmps112
      go_wp2
      go_loopw [7] (fun i wr => ∃ k : Nat, i = .int .i64 k ∧ k ≤ 1 ∧ wr = w) (fun i _ => 2 - (intOf i).toNat)
      case atStart => exact ⟨0, rfl, by omega, rfl⟩
      case round =>
        obtain ⟨k, rfl, hk, rfl⟩ := hrel
        by_cases h2 : k < 1
        · obtain rfl : k = 0 := by omega
          clear h1
          go_wp2
          go_roundw
          case rel => exact ⟨1, by go_num, by omega, by first | rfl | trivial⟩
          case measure => simp [intOf]
        · obtain rfl : k = 1 := by omega
          go_wp2
          go_ret
          exact ⟨rfl, rfl⟩
  · rw [if_neg ha]
    have hd : (a != 0) = true := by simp [ha]
    go_enter Tryz.func112, Tryz.ntmps112
    go_wp2
    go_loopw [7] (fun i wr => i = .int .i64 0 ∧ wr = w) (fun i _ => 2 - (intOf i).toNat)
    case atStart => exact ⟨rfl, rfl⟩
    case round =>
      obtain ⟨rfl, rfl⟩ := hrel
      go_wp2
      go_ret
      exact ⟨rfl, rfl⟩

set_option maxHeartbeats 400000 in
theorem iBy (a b x y : Int) (w : World) : Calls Tryz.prog 83 #[.int .i64 a, .int .i64 b, .int .u32 x, .int .u32 y] w fun e w' => e = .returned (.int .i64 (if cmpI a b = 0 then cmpI x y else cmpI a b)) ∧ Grw w w' := by
  have C1 := Lib.hid (fun W => cmpLong a b W)
  have C2 := Lib.hid (fun W => cmpName x y W)
  generalize cmpI a b = p at *
  generalize cmpI x y = q at *
  go_enter Tryz.func83, Tryz.ntmps83
  go_wp2_with fail
  refine (C1.out _).mono ?_
  rintro e w1 ⟨rfl, rfl⟩
  go_wp2_with fail
  refine (C2.out _).mono ?_
  rintro e w1 ⟨rfl, rfl⟩
  go_wp2_with fail
  refine (iFirst p q _ _ (by rw [World.cell?_alloc_at _ _ _ _ rfl]; rfl) (by rw [World.cell?_alloc_at _ _ _ _ rfl]; rfl)).mono ?_
  rintro e w1 ⟨rfl, rfl⟩
  go_wp2
  all_goals
    go_ret
    exact ⟨rfl, (Grw.refl _).alloc _⟩

theorem Grw.trans {w w1 w2 : World} (h : Grw w w1) (h2 : Grw w1 w2) : Grw w w2 := by
  obtain ⟨q, os, rfl⟩ := h
  obtain ⟨q2, os2, rfl⟩ := h2
  refine ⟨q + q2, os ++ os2, ?_⟩
  rw [← Sort.grow_grow]
  show Sort.grow (Sort.grow ((w.drewN q).drewN q2) os) os2 = _
  rw [World.drewN_drewN]

set_option maxHeartbeats 400000 in
theorem iByX (p q : Pt) (w : World) : Calls Tryz.prog 45 #[vPt p.1 p.2.1 p.2.2, vPt q.1 q.2.1 q.2.2] w fun e w' => e = .returned (.int .i64 (ordX p q)) ∧ Grw w w' := by
  have C1 := Lib.hid (fun W => iBy p.1 q.1 p.2.2 q.2.2 W)
  unfold ordX
  generalize (if cmpI p.1 q.1 = 0 then cmpI p.2.2 q.2.2 else cmpI p.1 q.1) = r at *
  go_enter Tryz.func45, Tryz.ntmps45
  go_wp2_with fail
  refine (C1.out _).mono ?_
  rintro e w1 ⟨rfl, h⟩
  go_wp2
  go_ret
  exact ⟨rfl, (((Grw.refl _).alloc _).alloc _).trans h⟩

theorem enters_ByX : ∀ args w, (callFunc 45 args).run Tryz.prog w = .ok (.enter 45 args) w := enters_of Tryz.func45 (by kernel_rfl) rfl

end Go.Proofs.YtggfdlanobndjaaGreat

/- slices.SortFunc at structs, over rows that the call owns. No function of the program is walked here. -/
namespace Go.Proofs.YtggfdlanobndjaaGreat
open Go.RowKit Go.Sort Go.Shelf Go.Lib

section
variable {α : Type} [Inhabited α] {enc : α → List Value} {k : Nat}

theorem flatK_toList (hk : ∀ x, (enc x).length = k) (hk0 : 0 < k) (l : List α) : (flatK enc k l.toArray).toList = l.flatMap enc := by
  apply List.ext_getElem?
  intro t
  by_cases ht : t < l.length * k
  · have h1 : t / k < l.length := Nat.div_lt_of_lt_mul (by rw [Nat.mul_comm]; exact ht)
    have h2 : t % k < k := Nat.mod_lt _ hk0
    have h3 := flat_get hk l (t / k) h1 (t % k) h2
    rw [Nat.div_add_mod' t k] at h3
    rw [h3]
    have h4 := get_flatK enc k l.toArray t (by simpa using ht)
    have h5 : t < (flatK enc k l.toArray).size := by simpa using ht
    rw [Array.getElem?_toList, Array.getElem?_eq_getElem h5]
    rw [getElem!_pos _ t h5] at h4
    rw [h4]
    have h6 : t % k < (enc l[t / k]).length := by rw [hk]; exact h2
    rw [List.getElem?_eq_getElem h6]
    simp [h1, h6]
  · rw [List.getElem?_eq_none (by simp; omega), List.getElem?_eq_none (by rw [flat_len hk]; omega)]

theorem holdsK_of_owned (hk : ∀ x, (enc x).length = k) (hk0 : 0 < k) {w : World} {base g c n : Nat} {e : TypeId} {l : List α} (hn : l.length = n) (h : w.ownsRow base e k (.slice (some ⟨g, 0, none⟩) n c) n (l.flatMap enc)) : HoldsK enc k w g 0 l.toArray := by
  intro j hj
  have hj' : j < n * k := by rw [← hn]; simpa using hj
  have h1 := h.cellAt j hj'
  have h2 := h.frozenAt j
  rw [Nat.zero_add]
  refine ⟨?_, h2⟩
  rw [h1, ← flatK_toList hk hk0, Array.getElem?_toList, Array.getElem?_eq_getElem hj]
  rw [getElem!_pos (flatK enc k l.toArray) j hj]
  rfl

theorem owned_putRowK (hk : ∀ x, (enc x).length = k) (hk0 : 0 < k) {w : World} {base g c n : Nat} {e : TypeId} {l l' : List α} (hl : l'.length = n) (h : w.ownsRow base e k (.slice (some ⟨g, 0, none⟩) n c) n (l.flatMap enc)) (q : Nat) (os : Array Obj) :
    (Sort.grow (putRowK enc k (Sort.ahead w q) g 0 l'.toArray) os).ownsRow base e k (.slice (some ⟨g, 0, none⟩) n c) n (l'.flatMap enc) ∧ w.grownBy (Sort.grow (putRowK enc k (Sort.ahead w q) g 0 l'.toArray) os) (some g) := by
  rcases h.2 with ⟨h1, _⟩ | ⟨g', cap, cur, h1, hg, hh, hc, hm, hs, ht⟩
  · cases h1
  · injection h1 with e1 e2 e3
    injection e1 with e1
    injection e1 with e1 _ _
    subst e1 e3
    have hlt : g < w.heap.size := (Array.getElem?_eq_some_iff.1 hh).1
    have key : (Sort.grow (putRowK enc k (Sort.ahead w q) g 0 l'.toArray) os).heap[g]? = some (.cells (Sort.putCells id 0 (flatK enc k l'.toArray) cur) e (0, 0)) := by
      show ((w.heap.modify g (Sort.onCells (Sort.putCells id 0 (flatK enc k l'.toArray)))) ++ os)[g]? = _
      rw [Array.getElem?_append_left (by simpa using hlt), Array.getElem?_modify, if_pos rfl, hh]
      rfl
    have hsz : (Sort.putCells id 0 (flatK enc k l'.toArray) cur).size = c * k := by simp [Sort.putCells, hs]
    have hnk : n * k ≤ c * k := Nat.mul_le_mul_right _ hc
    have htk : (Sort.putCells id 0 (flatK enc k l'.toArray) cur).toList.take (n * k) = l'.flatMap enc := by
      rw [← flatK_toList hk hk0]
      have hfs : (flatK enc k l'.toArray).size = n * k := by simp [hl]
      generalize flatK enc k l'.toArray = F at *
      apply List.ext_getElem?
      intro j
      rw [List.getElem?_take]
      by_cases hj : j < n * k
      · rw [if_pos hj]
        have hjc : j < cur.size := by omega
        simp [Sort.putCells, hjc, hfs, hj]
      · rw [if_neg hj]
        exact (List.getElem?_eq_none (by simp; omega)).symm
    refine ⟨⟨by rw [flat_len hk, hl], .inr ⟨g, c, _, rfl, hg, key, hc, hm, hsz, htk⟩⟩, ?_⟩
    refine ⟨rfl, rfl, rfl, ?_, fun b hb hne => ?_⟩
    · show w.heap.size ≤ ((w.heap.modify g _) ++ os).size
      simp
    · show ((w.heap.modify g _) ++ os)[b]? = _
      rw [Array.getElem?_append_left (by simpa using hb), Array.getElem?_modify, if_neg (fun e => hne (by rw [e]))]

theorem perm_of_permIn {d d' : Array α} (h : PermIn 0 d.size d d') : d'.toList.Perm d.toList := by
  obtain ⟨h1, _, h3⟩ := h
  rw [show d.extract 0 d.size = d by simp, show d'.extract 0 d.size = d' by rw [← h1]; simp] at h3
  exact h3

theorem sortFunc_owned {P : Program} {ρ : Ren} (L : SlLaysF0.n6 P ρ) (hk : ∀ x, (enc x).length = k) (hk0 : 0 < k) (aE : ∀ w, (isAgg (ρ.t 24)).run P w = .ok true w) (zE : ∀ w, (Go.sizeOf (ρ.t 24)).run P w = .ok k w) (h1 : ∀ x, ∀ v ∈ enc x, v.oneCell' = true)
    (cf : α → α → Int) (hO : SWO (ltOf cf)) (f : Nat) (cb : Array Value) (eg : ∀ args w, (callFunc f args).run P w = .ok (.enter f args) w)
    (hcmp : ∀ x y W, Calls P f (#[.agg (enc x).toArray, .agg (enc y).toArray] ++ cb) W fun e w' => e = .returned (.int .i64 (cf x y)) ∧ ∃ q os', w' = Sort.grow (W.drewN q) os')
    {w : World} {base g c n : Nat} {e : TypeId} {l : List α} (hn : l.length = n) (hsz : n < 4611686018427387904) (h : w.ownsRow base e k (.slice (some ⟨g, 0, none⟩) n c) n (l.flatMap enc)) :
    Calls P (ρ.f 6) #[.slice (some ⟨g, 0, none⟩) n c, .func (.func f) #[] cb] w fun en w' =>
      en = .returned (.tuple #[]) ∧ ∃ l' : List α, l'.Perm l ∧ l'.Pairwise (fun x y => ¬ cf y x < 0) ∧ w'.ownsRow base e k (.slice (some ⟨g, 0, none⟩) n c) n (l'.flatMap enc) ∧ w.grownBy w' (some g) := by
  have hlt : g < w.heap.size := by
    rcases h.2 with ⟨h1, _⟩ | ⟨g', cap, cur, h1, hg, hh, _⟩
    · cases h1
    · injection h1 with e1 e2 e3
      injection e1 with e1
      injection e1 with e1 _ _
      subst e1
      exact (Array.getElem?_eq_some_iff.1 hh).1
  have hc := AnyQ.slices_SortFunc L k aE zE enc hk h1 cf hO f cb g 0 c l.toArray w eg (fun m os dk _ x y => hcmp x y _) (holdsK_of_owned hk hk0 hn h) hlt (by simpa [hn] using hsz)
  rw [show l.toArray.size = n by simpa using hn] at hc
  refine hc.mono ?_
  rintro en w' ⟨he, d', m, os, hp, hs, rfl⟩
  rw [show n = l.toArray.size by simpa using hn.symm] at hp hs
  have hpl := perm_of_permIn hp
  have hl' : d'.toList.length = n := by rw [hpl.length_eq]; simpa using hn
  obtain ⟨k1, k2⟩ := owned_putRowK hk hk0 hl' h m os
  refine ⟨he, d'.toList, hpl, ?_, k1, k2⟩
  rw [List.pairwise_iff_getElem]
  intro i j hi hj hij
  have hz : d'.size = n := by simpa using hl'
  have h3 := hs i j (Nat.zero_le _) hij (by simp at hj ⊢; omega)
  simp at hi hj
  rw [getElem!_pos d' j (by omega), getElem!_pos d' i (by omega)] at h3
  unfold ltOf at h3
  simpa using h3
end

end Go.Proofs.YtggfdlanobndjaaGreat

/- Points: slices.Clone, SortFunc by X, Reverse. -/
namespace Go.Proofs.YtggfdlanobndjaaGreat
open Go.RowKit Go.Sort Go.Shelf Go.Lib

instance : Inhabited Pt := ⟨(0, 0, 0)⟩

theorem swo_of_lt {α : Type} {cf : α → α → Int} {R : α → α → Prop} (h : ∀ x y, cf x y < 0 ↔ R x y) (hi : ∀ x, ¬ R x x) (ht : ∀ x y z, R x y → R y z → R x z) (hn : ∀ x y z, ¬ R x y → ¬ R y z → ¬ R x z) : SWO (ltOf cf) where
  irrefl x := by unfold ltOf; rw [decide_eq_false_iff_not, h]; exact hi x
  trans x y z h1 h2 := by unfold ltOf at *; rw [decide_eq_true_iff, h] at *; exact ht x y z h1 h2
  ntrans x y z h1 h2 := by unfold ltOf at *; rw [decide_eq_false_iff_not, h] at *; exact hn x y z h1 h2

theorem swoX : SWO (ltOf ordX) := swo_of_lt ordX_lt ltX_irr (fun _ _ _ => ltX_trans) (fun x y z => by unfold ltX; omega)

theorem below_of_grown {B g : Nat} {w w' : World} (h : w.grownBy w' (some g)) (hB : B ≤ w.heap.size) (hg : B ≤ g) : Below B w w' := grown_below h hB hg

set_option maxHeartbeats 400000 in
theorem clonePts (a : Option Addr) (l : List Pt) (n c : Nat) (w : World) (hn : l.length = n) (h : RdK ePt 3 w a l) (hl : n ≤ 1000000) :
    Calls Tryz.prog 42 #[.slice a n c] w fun e w' => ∃ v, e = .returned v ∧ w'.ownsRow w.heap.size 34 3 v n (l.flatMap ePt) ∧ Below w.heap.size w w' := by
  subst hn
  have q22 : ∀ (w : World) (a : Option Addr) (n c n' c' : Nat), (binOp .eql 22 (.slice a n c) (.slice none n' c')).run Tryz.prog w = .ok (.bool a.isNone) w := fun w a n c n' c' => Lib.run_eql_slice_nil w _ _ a n c n' c' Tryz.underlying22
  cases a with
  | none =>
    have e0 : l = [] := by
      rcases h with h | ⟨b, off, h, _⟩
      · exact h
      · cases h
    subst e0
    go_enter Tryz.func42, Tryz.ntmps42
    go_wp2
    go_ret
    exact ⟨_, rfl, World.ownsRow_nil _ _ _ _, Below.refl _ _⟩
  | some ad =>
    have hown := World.ownsRow_made (e := 34) (size := 3) w #[] 0 (Nat.le_refl _) (Nat.zero_le _) rfl
    have h' : RdK ePt 3 (w.alloc (.cells #[] 34)) (some ad) l := h.below ((Below.refl _ _).alloc (Nat.le_refl _) _)
    clear h
    go_enter Tryz.func42, Tryz.ntmps42
    go_wp2_with (at_builtin; refine wp_appendK elPoint ePt_len ePt_one w.heap.size hown h' rfl _ _ rfl rfl c rfl (by unfold maxLen; omega) (by omega) (by simp) ?_; intro v' w' hown' hg)
    go_ret
    rw [Nat.zero_add, List.nil_append] at hown'
    exact ⟨_, rfl, hown', below_grown ((Below.refl _ _).alloc (Nat.le_refl _) _) hown hg (by simp) (Nat.le_refl _)⟩

theorem sorted_srtX {l l' : List Pt} (hu : (ids l).Nodup) (hp : l'.Perm l) (hs : l'.Pairwise fun x y => ¬ ordX y x < 0) : l' = srtX l := by
  refine srtX_eq hu ?_ fun p => hp.mem_iff
  have h2 : (ids l').Nodup := (hp.map _).nodup_iff.2 hu
  have h3 : l'.Pairwise fun p q => p.2.2 ≠ q.2.2 := List.pairwise_map.1 h2
  refine (hs.and h3).imp fun {a b} hab => ?_
  obtain ⟨ha, hb⟩ := hab
  rw [ordX_lt] at ha
  unfold ltX at *
  omega

/-- slices.SortFunc(l, item.ByX) at unlike points: the row holds them in order -/
theorem sortPts {w : World} {base g c n : Nat} {l : List Pt} (hn : l.length = n) (hsz : n < 4611686018427387904) (h : w.ownsRow base 34 3 (.slice (some ⟨g, 0, none⟩) n c) n (l.flatMap ePt)) (hu : (ids l).Nodup) :
    Calls Tryz.prog 44 #[.slice (some ⟨g, 0, none⟩) n c, .func (.func 45) #[] #[]] w fun e w' =>
      e = .returned (.tuple #[]) ∧ w'.ownsRow base 34 3 (.slice (some ⟨g, 0, none⟩) n c) n ((srtX l).flatMap ePt) ∧ w.grownBy w' (some g) := by
  have hc := sortFunc_owned Tryz.sortPt ePt_len (by decide) Tryz.isAgg34 Tryz.sizeOf34 ePt_one ordX swoX 45 #[] enters_ByX (fun x y W => iByX x y W) hn hsz h
  change Calls Tryz.prog 44 _ _ _ at hc
  refine hc.mono ?_
  rintro e w' ⟨he, l', hp, hs, ho, hg⟩
  rw [sorted_srtX hu hp hs] at ho
  exact ⟨he, ho, hg⟩

theorem sortPts_none (p : Option Addr) (cap : Nat) (fv : Value) (w : World) :
    Calls Tryz.prog 44 #[.slice p 0 cap, fv] w fun e w' => e = .returned (.tuple #[]) ∧ w' = w := AnyF.slices_SortFunc_none Tryz.sortPt p cap fv w

/-- any slice of unlike points that the call owns -/
theorem sortPtsV {w : World} {base n : Nat} {v : Value} {l : List Pt} (hn : l.length = n) (hsz : n < 4611686018427387904) (h : w.ownsRow base 34 3 v n (l.flatMap ePt)) (hu : (ids l).Nodup) (hb : base ≤ w.heap.size) :
    Calls Tryz.prog 44 #[v, .func (.func 45) #[] #[]] w fun e w' =>
      e = .returned (.tuple #[]) ∧ w'.ownsRow base 34 3 v n ((srtX l).flatMap ePt) ∧ Below base w w' := by
  rcases h.2 with ⟨rfl, h0⟩ | ⟨g, cap, cur, rfl, hg, _⟩
  · subst h0
    obtain rfl : l = [] := List.eq_nil_of_length_eq_zero hn
    refine (sortPts_none none 0 _ w).mono ?_
    rintro e w' ⟨he, rfl⟩
    exact ⟨he, by simpa [srtX] using h, Below.refl _ _⟩
  · refine (sortPts hn hsz h hu).mono ?_
    rintro e w' ⟨he, ho, hgr⟩
    exact ⟨he, ho, below_of_grown hgr hb hg⟩


end Go.Proofs.YtggfdlanobndjaaGreat

/- pool.New: an empty pool. -/
namespace Go.Proofs.YtggfdlanobndjaaGreat
open Go.RowKit Go.Sort Go.Shelf Go.Lib Go.Maps
attribute [local go_sem] Oper.semAt_some
set_option linter.unusedSimpArgs false
set_option linter.unusedVariables false

set_option maxRecDepth 100000 in
theorem pool_new (most : Nat) (hm : most ≤ 100000) (w : World) :
    Calls Tryz.prog 101 #[.int .i64 most] w fun e w' => e = .returned (.tuple #[.pointer (some ⟨w.heap.size, 0, none⟩), .int .i64 0]) ∧ w' = w.alloc (.cells #[.int .i64 most, .slice none 0 0, .slice none 0 0, .bool true] 213) := by
  have h0 : decide ((most : Int) < 0) = false := by simp
  have h1 : decide ((most : Int) > 100000) = false := by simp; omega
  refine calls_of_wp Tryz.func101 rfl ?_
  simp only [Tryz.ntmps101, List.size_toArray, List.length_cons, List.length_nil, Nat.reduceAdd, Nat.reduceSub, Array.replicate_succ, Array.replicate_zero, List.push_toArray, List.append_toArray, List.nil_append, List.cons_append]
  go_wp2
  go_ret2
  exact ⟨rfl, rfl⟩

set_option maxHeartbeats 400000 in
theorem cloneNd (a : Option Addr) (l : List Nd) (n c : Nat) (w : World) (hn : l.length = n) (h : RdK eNd 7 w a l) (hl : n ≤ 1000000) :
    Calls Tryz.prog 140 #[.slice a n c] w fun e w' => ∃ v, e = .returned v ∧ w'.ownsRow w.heap.size 119 7 v n (l.flatMap eNd) ∧ Below w.heap.size w w' := by
  subst hn
  have q22 : ∀ (w : World) (a : Option Addr) (n c n' c' : Nat), (binOp .eql 85 (.slice a n c) (.slice none n' c')).run Tryz.prog w = .ok (.bool a.isNone) w := fun w a n c n' c' => Lib.run_eql_slice_nil w _ _ a n c n' c' Tryz.underlying85
  cases a with
  | none =>
    have e0 : l = [] := by
      rcases h with h | ⟨b, off, h, _⟩
      · exact h
      · cases h
    subst e0
    go_enter Tryz.func140, Tryz.ntmps140
    go_wp2
    go_ret
    exact ⟨_, rfl, World.ownsRow_nil _ _ _ _, Below.refl _ _⟩
  | some ad =>
    have hown := World.ownsRow_made (e := 119) (size := 7) w #[] 0 (Nat.le_refl _) (Nat.zero_le _) rfl
    have h' : RdK eNd 7 (w.alloc (.cells #[] 119)) (some ad) l := h.below ((Below.refl _ _).alloc (Nat.le_refl _) _)
    clear h
    go_enter Tryz.func140, Tryz.ntmps140
    go_wp2_with (at_builtin; refine wp_appendK elNd eNd_len eNd_one w.heap.size hown h' rfl _ _ rfl rfl c rfl (by unfold maxLen; omega) (by omega) (by simp) ?_; intro v' w' hown' hg)
    go_ret
    rw [Nat.zero_add, List.nil_append] at hown'
    exact ⟨_, rfl, hown', below_grown ((Below.refl _ _).alloc (Nat.le_refl _) _) hown hg (by simp) (Nat.le_refl _)⟩

theorem pool_nodes (most : Nat) (b : Nat) (na : Option Addr) (nc : Nat) (kv : Value) (l : List Nd) (w : World) (hb : w.heap[b]? = some (.cells #[.int .i64 most, .slice na l.length nc, kv, .bool true] 213 (0, 0))) (h : RdK eNd 7 w na l) (hl : l.length ≤ 1000000) :
    Calls Tryz.prog 103 #[.pointer (some ⟨b, 0, none⟩)] w fun e w' => ∃ v, e = .returned v ∧ w'.ownsRow w.heap.size 119 7 v l.length (l.flatMap eNd) ∧ Below w.heap.size w w' := by
  have c1 : w.cell? ⟨b, 1, none⟩ = some (.slice na l.length nc) := by simp [World.cell?, hb]
  have hC := cloneNd na l l.length nc w rfl h hl
  clear hb h
  go_enter Tryz.func103, Tryz.ntmps103
  go_wp2_with (go_at_call 140; refine hC.mono ?_; rintro e w' ⟨v, rfl, ho, hbel⟩)
  go_ret
  exact ⟨_, rfl, ho, hbel⟩

end Go.Proofs.YtggfdlanobndjaaGreat

/- (*pool.Pool).Put: a node more. -/
namespace Go.Proofs.YtggfdlanobndjaaGreat
open Go.RowKit Go.Sort Go.Shelf Go.Lib Go.Maps
attribute [local irreducible] wpQuiet
attribute [local go_sem] Oper.still1
set_option linter.unusedSimpArgs false
set_option linter.unusedVariables false

/-- a pool, as it lies -/
structure PoolAt (w : World) (b base most : Nat) (nv kv : Value) (l : List Nd) (kid : List Bool) : Prop where
  blk : w.heap[b]? = some (.cells #[.int .i64 most, nv, kv, .bool true] 213 (0, 0))
  nod : w.ownsRow base 119 7 nv l.length (l.flatMap eNd)
  row : w.ownsRow base 4 1 kv l.length (kid.map Value.bool)
  len : kid.length = l.length

/-- the blocks that a pool may write -/
def poolS (b : Nat) (nv kv : Value) (k : Nat) : Prop := k = b ∨ nv.ownBlock = some k ∨ kv.ownBlock = some k

/-- what Put leaves -/
def PoolQ (w : World) (b base most : Nat) (nv kv : Value) (l : List Nd) (kid : List Bool) (w' : World) : Prop :=
  ∃ nv' kv', PoolAt w' b base most nv' kv' l kid ∧ (∀ k, poolS b nv' kv' k → poolS b nv kv k ∨ w.heap.size ≤ k) ∧ KpS (poolS b nv kv) w w'

theorem PoolAt.lt {w : World} {b base most : Nat} {nv kv : Value} {l : List Nd} {kid : List Bool} (h : PoolAt w b base most nv kv l kid) : ∀ k, poolS b nv kv k → k < w.heap.size := by
  rintro k (rfl | e | e)
  · exact (Array.getElem?_eq_some_iff.1 h.blk).1
  · exact (h.nod.lt k e).2
  · exact (h.row.lt k e).2

theorem PoolAt.kept {w w' : World} {b base most : Nat} {nv kv : Value} {l : List Nd} {kid : List Bool} (h : PoolAt w b base most nv kv l kid) {S : Nat → Prop} (K : KpS S w w') (hS : ∀ k, poolS b nv kv k → ¬ S k) : PoolAt w' b base most nv kv l kid :=
  ⟨blkK K h.blk (hS b (.inl rfl)), rowK h.nod K (fun gb e => hS gb (.inr (.inl e))), rowK h.row K (fun gb e => hS gb (.inr (.inr e))), h.len⟩

theorem PoolQ.trans {w w1 w2 : World} {b base most : Nat} {nv kv nv1 kv1 : Value} {l2 : List Nd} {kid2 : List Bool} (h1 : ∀ k, poolS b nv1 kv1 k → poolS b nv kv k ∨ w.heap.size ≤ k) (K : KpS (poolS b nv kv) w w1) (h : PoolQ w1 b base most nv1 kv1 l2 kid2 w2) : PoolQ w b base most nv kv l2 kid2 w2 := by
  obtain ⟨nv2, kv2, A, hs, K2⟩ := h
  refine ⟨nv2, kv2, A, fun k hk => ?_, ?_⟩
  · rcases hs k hk with h9 | h9
    · exact h1 k h9
    · have := K.size; exact .inr (by omega)
  · exact ((K.mono (fun k h => .inl h)).trans (K2.mono (fun k h9 => h1 k h9))).strip

/-- an owned row's value is a slice -/
theorem rowV {w : World} {base : Nat} {e : TypeId} {sz : Nat} {v : Value} {n : Nat} {xs : List Value} (h : w.ownsRow base e sz v n xs) : ∃ a c, v = .slice a n c := by
  rcases h.2 with ⟨rfl, rfl⟩ | ⟨g, cap, cur, rfl, _⟩ <;> exact ⟨_, _, rfl⟩

theorem enters_pput : ∀ args w, (callFunc 159 args).run Tryz.prog w = .ok (.enter 159 args) w := enters_of Tryz.func159 (by kernel_rfl) rfl

/-- what Put's last statement loads -/
def PutF (b x : Nat) (nv kv : Value) (k L R f t it : Int) (W : World) : Prop :=
  W.cell? ⟨b, 1, none⟩ = some (nv) ∧ W.cell? ⟨b, 2, none⟩ = some (kv) ∧ W.cell? ⟨x, 0, none⟩ = some (.int .u8 k) ∧ W.cell? ⟨x, 1, none⟩ = some (.int .i64 L) ∧ W.cell? ⟨x, 2, none⟩ = some (.int .i64 R) ∧ W.cell? ⟨x, 3, none⟩ = some (.int .i64 f) ∧ W.cell? ⟨x, 4, none⟩ = some (.int .i64 t) ∧ W.cell? ⟨x, 5, none⟩ = some (.int .i64 0) ∧ W.cell? ⟨x, 6, none⟩ = some (.int .i64 it)

set_option maxRecDepth 100000 in
set_option maxHeartbeats 8000000 in
theorem pool_put_any (k L R f t it : Int) (most b base m : Nat) (nv kv : Value) (kid kid' : List Bool) (l : List Nd) (w : World) (hl : l.length = m) (hm : m < most) (hmost : most ≤ 100000) (hlk : kid'.length = m)
    (h : PoolAt w b base most nv kv l kid) (hbw : base ≤ w.heap.size)
    (HM : ∀ W, W.ownsRow base 4 1 kv m (kid.map Value.bool) → Calls Tryz.prog 158 #[vNd k L R f t it, kv] W fun e w' => e = .returned (.bool true) ∧ Below W.heap.size W w')
    (HP : ∀ W, W.ownsRow base 4 1 kv m (kid.map Value.bool) → base ≤ W.heap.size → Calls Tryz.prog 159 #[vNd k L R f t it, kv] W (PutQ W base m kv kid')) :
    Calls Tryz.prog 139 #[.pointer (some ⟨b, 0, none⟩), vNd k L R f t it] w fun e w' => e = .returned (.tuple #[.int .i64 m, .int .i64 0]) ∧ PoolQ w b base most nv kv (l ++ [⟨k, L, R, f, t, it⟩]) (kid' ++ [false]) w' := by
  obtain ⟨hb, hnod, hrow, hkl⟩ := h
  rw [hl] at hnod hrow
  have hbl : b < w.heap.size := (Array.getElem?_eq_some_iff.1 hb).1
  obtain ⟨na, nc, hnv, -, -, -⟩ := RdK.of_owns eNd_len (by decide) hnod
  rw [hl] at hnv
  subst hnv
  have c0 : w.cell? ⟨b, 0, none⟩ = some (.int .i64 most) := by simp [World.cell?, hb]
  have c1 : w.cell? ⟨b, 1, none⟩ = some (.slice na m nc) := by simp [World.cell?, hb]
  have c2 : w.cell? ⟨b, 2, none⟩ = some kv := by simp [World.cell?, hb]
  have c3 : w.cell? ⟨b, 3, none⟩ = some (.bool true) := by simp [World.cell?, hb]
  have HB := Lib.hid hb
  have HR := Lib.hid hrow
  have HN := Lib.hid hnod
  have HMM := Lib.hid HM
  have HPP := Lib.hid HP
  have HKL := Lib.hid hkl
  have HLL := Lib.hid hl
  have HLK := Lib.hid hlk
  have d1 : decide ((m : Int) ≥ (most : Int)) = false := by simp; omega
  have d3 : decide (most ≤ m) = false := by simp; omega
  have d2 : decide ((most : Int) ≤ (m : Int)) = false := by simp; omega
  clear hb hrow hnod HM HP hkl hl hlk
  go_enter Tryz.func139, Tryz.ntmps139
  go_wp2
  obtain ⟨wk, hwk⟩ : ∃ wk, wk = w.alloc (.cells #[.int .u8 k, .int .i64 L, .int .i64 R, .int .i64 f, .int .i64 t, .int .i64 0, .int .i64 it] 119) := ⟨_, rfl⟩
  have HBW : Hid (Below w.heap.size w wk) := by rw [hwk]; exact (Below.refl _ w).alloc (Nat.le_refl _) _
  have HX : Hid (wk.heap[w.heap.size]? = some (.cells #[.int .u8 k, .int .i64 L, .int .i64 R, .int .i64 f, .int .i64 t, .int .i64 0, .int .i64 it] 119 (0, 0))) := by rw [hwk]; exact lit0 w _
  rw [← hwk]
  have hsk : w.heap.size < wk.heap.size := by rw [hwk]; simp
  clear hwk
  have HN1 := Lib.hid (ownsRow_below HN.out HBW.out)
  have HR1 := Lib.hid (ownsRow_below HR.out HBW.out)
  have HB1 : Hid (wk.heap[b]? = some (.cells #[.int .i64 most, .slice na m nc, kv, .bool true] 213 (0, 0))) := (HBW.out.block b hbl).trans HB.out
  have e0 := (HBW.out.cell (p := ⟨b, 0, none⟩) hbl).trans c0
  have e1 := (HBW.out.cell (p := ⟨b, 1, none⟩) hbl).trans c1
  have e2 := (HBW.out.cell (p := ⟨b, 2, none⟩) hbl).trans c2
  have hx := HX.out
  have x0 : wk.cell? ⟨w.heap.size, 0, none⟩ = some (.int .u8 k) := by simp [World.cell?, hx]
  have x1 : wk.cell? ⟨w.heap.size, 1, none⟩ = some (.int .i64 L) := by simp [World.cell?, hx]
  have x2 : wk.cell? ⟨w.heap.size, 2, none⟩ = some (.int .i64 R) := by simp [World.cell?, hx]
  have x3 : wk.cell? ⟨w.heap.size, 3, none⟩ = some (.int .i64 f) := by simp [World.cell?, hx]
  have x4 : wk.cell? ⟨w.heap.size, 4, none⟩ = some (.int .i64 t) := by simp [World.cell?, hx]
  have x5 : wk.cell? ⟨w.heap.size, 5, none⟩ = some (.int .i64 0) := by simp [World.cell?, hx]
  have x6 : wk.cell? ⟨w.heap.size, 6, none⟩ = some (.int .i64 it) := by simp [World.cell?, hx]
  clear hx c0 c1 c2 c3
  have ky2 := cell_belowW e2
  have kx0 := cell_belowW x0
  have kx1 := cell_belowW x1
  have kx2 := cell_belowW x2
  have kx3 := cell_belowW x3
  have kx4 := cell_belowW x4
  have kx5 := cell_belowW x5
  have kx6 := cell_belowW x6
  have HC : Hid (∀ p : BelowW wk, Calls Tryz.prog 158 #[vNd k L R f t it, kv] p.W fun e w' => e = .returned (.bool true) ∧ Below p.W.heap.size p.W w') := fun p => HMM.out _ (ownsRow_below HR1.out p.h)
  refine wp_region_below (by kernel_rfl) (by kernel_rfl) ?_
  repeat (quiet_step ((go_at_call 158; exact calls_below (HC.out _))))
  refine wpQuiet_nil ?_
  intro w5 hw'
  have hb5 : Below wk.heap.size wk w5 := by obtain ⟨p, rfl⟩ := hw'; exact p.h
  clear hw' ky2 kx0 kx1 kx2 kx3 kx4 kx5 kx6 HC
  have HN5 := Lib.hid (ownsRow_below HN1.out hb5)
  have HR5 := Lib.hid (ownsRow_below HR1.out hb5)
  have hbk : b < wk.heap.size := by omega
  have HB5 : Hid (w5.heap[b]? = some (.cells #[.int .i64 most, .slice na m nc, kv, .bool true] 213 (0, 0))) := (hb5.block b hbk).trans HB1.out
  have z0 := (hb5.cell (p := ⟨b, 0, none⟩) hbk).trans e0
  have z1 := (hb5.cell (p := ⟨b, 1, none⟩) hbk).trans e1
  have z2 := (hb5.cell (p := ⟨b, 2, none⟩) hbk).trans e2
  have y0 := (hb5.cell (p := ⟨w.heap.size, 0, none⟩) hsk).trans x0
  have y1 := (hb5.cell (p := ⟨w.heap.size, 1, none⟩) hsk).trans x1
  have y2 := (hb5.cell (p := ⟨w.heap.size, 2, none⟩) hsk).trans x2
  have y3 := (hb5.cell (p := ⟨w.heap.size, 3, none⟩) hsk).trans x3
  have y4 := (hb5.cell (p := ⟨w.heap.size, 4, none⟩) hsk).trans x4
  have y5 := (hb5.cell (p := ⟨w.heap.size, 5, none⟩) hsk).trans x5
  have y6 := (hb5.cell (p := ⟨w.heap.size, 6, none⟩) hsk).trans x6
  clear e0 e1 e2 x0 x1 x2 x3 x4 x5 x6
  go_wp2
  go_quiet (fail)
  go_wp2
  have q5 : w5.heap.size ≤ (w5.drewN nq).heap.size := Nat.le_refl _
  have HN6 : Hid ((w5.drewN nq).ownsRow base 119 7 (.slice na m nc) m (l.flatMap eNd)) := HN5.out
  have HR6 : Hid ((w5.drewN nq).ownsRow base 4 1 kv m (kid.map Value.bool)) := HR5.out
  have HB6 : Hid ((w5.drewN nq).heap[b]? = some (.cells #[.int .i64 most, .slice na m nc, kv, .bool true] 213 (0, 0))) := HB5.out
  have hKw : Hid (Below w.heap.size w (w5.drewN nq)) := (HBW.out.trans (hb5.mono (by omega))).trans (Below.drewAny _ _)
  have hX5 : w.heap.size < (w5.drewN nq).heap.size := Nat.lt_of_lt_of_le hsk hb5.size
  clear q5 hb5 HN5 HR5 HB5 HN1 HR1 HB1 HBW HX HB
  have z1' : (w5.drewN nq).cell? ⟨b, 1, none⟩ = some (.slice na m nc) := z1
  have z2' : (w5.drewN nq).cell? ⟨b, 2, none⟩ = some kv := z2
  have y0' : (w5.drewN nq).cell? ⟨w.heap.size, 0, none⟩ = some (.int .u8 k) := y0
  have y1' : (w5.drewN nq).cell? ⟨w.heap.size, 1, none⟩ = some (.int .i64 L) := y1
  have y2' : (w5.drewN nq).cell? ⟨w.heap.size, 2, none⟩ = some (.int .i64 R) := y2
  have y3' : (w5.drewN nq).cell? ⟨w.heap.size, 3, none⟩ = some (.int .i64 f) := y3
  have y4' : (w5.drewN nq).cell? ⟨w.heap.size, 4, none⟩ = some (.int .i64 t) := y4
  have y5' : (w5.drewN nq).cell? ⟨w.heap.size, 5, none⟩ = some (.int .i64 0) := y5
  have y6' : (w5.drewN nq).cell? ⟨w.heap.size, 6, none⟩ = some (.int .i64 it) := y6
  clear z0 z1 z2 y0 y1 y2 y3 y4 y5 y6
  generalize w5.drewN nq = w6 at *
  have hnL : ∀ gb, (Value.slice na m nc).ownBlock = some gb → gb < w6.heap.size ∧ gb ≠ b ∧ gb ≠ w.heap.size := fun gb e => ⟨(HN6.out.lt gb e).2, fun e9 => row_ne HN6.out HB6.out (by decide) gb e e9.symm, fun e9 => by have := (HN.out.lt gb e).2; omega⟩
  have hkL : ∀ gb, kv.ownBlock = some gb → gb < w6.heap.size ∧ gb ≠ b ∧ gb ≠ w.heap.size := fun gb e => ⟨(HR6.out.lt gb e).2, fun e9 => row_ne HR6.out HB6.out (by decide) gb e e9.symm, fun e9 => by have := (HR.out.lt gb e).2; omega⟩
  have hnk : ∀ gb, (Value.slice na m nc).ownBlock = some gb → kv.ownBlock ≠ some gb := rows_ne HN6.out HR6.out (by decide)
  have HNL := Lib.hid hnL
  have HKL2 := Lib.hid hkL
  have HNK := Lib.hid hnk
  have hb6 : b < w6.heap.size := by omega
  have hbase6 : base ≤ w6.heap.size := by omega
  clear hnL hkL hnk
  have fz : ∀ o, w6.frozen? ⟨b, o, none⟩ = false := fun o => by have h9 := HB6.out; simp [World.frozen?, h9]
  have HF0 : Hid (PutF b w.heap.size (.slice na m nc) kv k L R f t it w6.drew) := ⟨z1', z2', y0', y1', y2', y3', y4', y5', y6'⟩
  have g0 : ∀ p : HeldW (PutF b w.heap.size (.slice na m nc) kv k L R f t it), p.W.cell? ⟨b, 1, none⟩ = some (.slice na m nc) := fun p => p.h.1
  have g1 : ∀ p : HeldW (PutF b w.heap.size (.slice na m nc) kv k L R f t it), p.W.cell? ⟨b, 2, none⟩ = some (kv) := fun p => p.h.2.1
  have g2 : ∀ p : HeldW (PutF b w.heap.size (.slice na m nc) kv k L R f t it), p.W.cell? ⟨w.heap.size, 0, none⟩ = some (.int .u8 k) := fun p => p.h.2.2.1
  have g3 : ∀ p : HeldW (PutF b w.heap.size (.slice na m nc) kv k L R f t it), p.W.cell? ⟨w.heap.size, 1, none⟩ = some (.int .i64 L) := fun p => p.h.2.2.2.1
  have g4 : ∀ p : HeldW (PutF b w.heap.size (.slice na m nc) kv k L R f t it), p.W.cell? ⟨w.heap.size, 2, none⟩ = some (.int .i64 R) := fun p => p.h.2.2.2.2.1
  have g5 : ∀ p : HeldW (PutF b w.heap.size (.slice na m nc) kv k L R f t it), p.W.cell? ⟨w.heap.size, 3, none⟩ = some (.int .i64 f) := fun p => p.h.2.2.2.2.2.1
  have g6 : ∀ p : HeldW (PutF b w.heap.size (.slice na m nc) kv k L R f t it), p.W.cell? ⟨w.heap.size, 4, none⟩ = some (.int .i64 t) := fun p => p.h.2.2.2.2.2.2.1
  have g7 : ∀ p : HeldW (PutF b w.heap.size (.slice na m nc) kv k L R f t it), p.W.cell? ⟨w.heap.size, 5, none⟩ = some (.int .i64 0) := fun p => p.h.2.2.2.2.2.2.2.1
  have g8 : ∀ p : HeldW (PutF b w.heap.size (.slice na m nc) kv k L R f t it), p.W.cell? ⟨w.heap.size, 6, none⟩ = some (.int .i64 it) := fun p => p.h.2.2.2.2.2.2.2.2
  refine wp_region_head (fun W => ∃ p : HeldW (PutF b w.heap.size (.slice na m nc) kv k L R f t it), W = p.W) [14, 15, 16, 17, 18, 19, 20] [(0, false), (1, false), (2, false), (3, false), (4, false), (5, true), (6, true), (9, true), (10, false), (11, false), (12, false), (13, true)] (by kernel_rfl) (by kernel_rfl) (fun _ _ d _ _ h => by cases d <;> exact h) ⟨⟨_, HF0.out⟩, rfl⟩ 9 rfl (by kernel_rfl) ?_
  simp only [pickB, List.filterMap_cons, List.filterMap_nil, List.getElem?_toArray, List.getElem?_cons_succ, List.getElem?_cons_zero, Option.map_some]
  repeat (refine wpHd_step (fun K hK => ?_); go_simp; first | (refine hK _ ?_; clear hK K) | (apply Exists.intro; refine ⟨fun _ => ?_, hK _ ?_⟩; rfl; clear hK K))
  refine wpHd_nil ?_
  refine wpAnyT_ready [7] (by kernel_rfl) (by simp) ?_
  refine AllReadyT.cons rfl (fun K hK => ?_) AllReadyT.nil
  go_simp
  have KA0 : KpS (fun _ => False) w6 (w6.alloc (.cells #[.int .u8 k, .int .i64 L, .int .i64 R, .int .i64 f, .int .i64 t, .int .i64 0, .int .i64 it] 119)).drew := ((KpS.refl _ _).alloc _).drew
  obtain ⟨qb, -⟩ := cellK KA0 hb6 (fun h => h)
  obtain ⟨qx, -⟩ := cellK KA0 hX5 (fun h => h)
  refine hK _ _ (fun _ _ => ⟨⟨_, (qb 1).trans z1', (qb 2).trans z2', (qx 0).trans y0', (qx 1).trans y1', (qx 2).trans y2', (qx 3).trans y3', (qx 4).trans y4', (qx 5).trans y5', (qx 6).trans y6'⟩, rfl⟩) ?_
  clear hK K
  refine wpAnyT_ready [8] (by kernel_rfl) (by simp) ?_
  refine AllReadyT.cons rfl (fun K hK => ?_) AllReadyT.nil
  refine step_append1E elNd base (rowK (S := fun _ => False) HN6.out KA0 (fun _ _ h => h)) [.int .u8 k, .int .i64 L, .int .i64 R, .int .i64 f, .int .i64 t, .int .i64 0, .int .i64 it] rfl (by simp [Value.oneCell']) rfl (.tmp 40) (.tmp 42) rfl rfl w6.heap.size rfl (lit0d _ _) (by unfold maxLen; omega) (by omega) (by simp; omega) ?_
  intro ga capa wa hAown hAg hAblk hAlt
  have KA : KpS (fun k => (Value.slice na m nc).ownBlock = some k) w6 wa := (KA0.mono (fun _ h => h.elim)).grown hAg (fun k hk => .inl hk)
  obtain ⟨ab, af⟩ := cellK KA hb6 (fun e => (HNL.out _ e).2.1 rfl)
  obtain ⟨ax, -⟩ := cellK KA hX5 (fun e => (HNL.out _ e).2.2 rfl)
  refine hK _ _ (fun _ _ => ⟨⟨_, (ab 1).trans z1', (ab 2).trans z2', (ax 0).trans y0', (ax 1).trans y1', (ax 2).trans y2', (ax 3).trans y3', (ax 4).trans y4', (ax 5).trans y5', (ax 6).trans y6'⟩, rfl⟩) ?_
  clear hK K
  have HA0 := rowK (S := fun k => (Value.slice na m nc).ownBlock = some k) HR6.out KA (fun gb e e2 => HNK.out gb e2 e)
  have hba : base ≤ wa.heap.size := by have := KA.size; omega
  have hba2 : b < wa.heap.size := by have := KA.size; omega
  have fza : ∀ o, wa.frozen? ⟨b, o, none⟩ = false := fun o => (af o).trans (fz o)
  refine wpAnyT_line [14, 15, 16, 17, 18, 19, 20] _ _ _ (by kernel_rfl) ?_
  simp only [pick, List.filterMap_cons, List.filterMap_nil, List.getElem?_toArray, List.getElem?_cons_succ, List.getElem?_cons_zero]
  have PP := HPP.out _ HA0 hba
  have a1 := (ab 1).trans z1'
  have a2 := (ab 2).trans z2'
  clear ab af qb qx ax HMM HPP
  go_wp2_with (go_at_call 159; refine PP.mono ?_; rintro e wp ⟨v', rfl, hPown, hPblk, hKP⟩; obtain ⟨ka', kc', rfl⟩ := rowV hPown; obtain ⟨pb, pf⟩ := cellK hKP hba2 (fun e => (HKL2.out _ e).2.1 rfl); have p1 := (pb 1).trans a1; have p2 := (pb 2).trans a2; have f1 := (pf 1).trans (fza 1); have f2 := (pf 2).trans (fza 2); clear pb pf)
  have hka' := hPown
  have KB : KpS (poolS b (.slice na m nc) kv) w6 wp := (KA.mono (fun k h => .inr (.inl h))).trans (hKP.mono (fun k h => .inr (.inr h)))
  have KW : KpS (poolS b (.slice na m nc) kv) w ((wp.setCell ⟨b, 1, none⟩ (.slice (some ⟨ga, 0, none⟩) (m + 1) capa)).setCell ⟨b, 2, none⟩ (.slice ka' (m + 1) kc')) :=
    ((((KpS.refl (poolS b (.slice na m nc) kv) w).below hKw.out).trans KB).set (a := ⟨b, 1, none⟩) _ (.inl (.inl rfl))).set (a := ⟨b, 2, none⟩) _ (.inl (.inl rfl))
  have hga : ga ≠ b ∧ kv.ownBlock ≠ some ga := by
    rcases hAblk with h9 | h9
    · exact ⟨(HNL.out _ h9).2.1, fun e => HNK.out _ h9 e⟩
    · simp at h9
      exact ⟨by omega, fun e => by have := (HKL2.out _ e).1; omega⟩
  have hgk : ∀ gb, (Value.slice ka' (m + 1) kc').ownBlock = some gb → gb ≠ b := fun gb e => by
    rcases hPblk with h9 | ⟨b9, h9, h8⟩
    · exact (HKL2.out _ (h9.symm.trans e)).2.1
    · have : b9 = gb := by rw [h9] at e; injection e
      omega
  have hsw := hKw.out.size
  have hs6 := KA.size
  go_ret2
  refine ⟨rfl, .slice (some ⟨ga, 0, none⟩) (m + 1) capa, .slice ka' (m + 1) kc', ⟨?_, ?_, ?_, ?_⟩, ?_, KW⟩
  · have hbp : wp.heap[b]? = some (.cells #[.int .i64 most, .slice na m nc, kv, .bool true] 213 (0, 0)) := (hKP.block b hba2 (fun e => (HKL2.out _ e).2.1 rfl)).trans ((KA.block b hb6 (fun e => (HNL.out _ e).2.1 rfl)).trans HB6.out)
    have s1 := heap_setCell_same wp b 1 _ _ (.slice (some ⟨ga, 0, none⟩) (m + 1) capa) hbp
    have s2 := heap_setCell_same _ b 2 _ _ (.slice ka' (m + 1) kc') s1
    exact s2
  · have h1 := rowK (S := fun k => kv.ownBlock = some k) hAown hKP (fun gb e e2 => by injection e with e; subst e; exact hga.2 e2)
    have h2 := rowK (S := fun k => k = b) h1 (((KpS.refl (fun k => k = b) wp).set (a := ⟨b, 1, none⟩) (.slice (some ⟨ga, 0, none⟩) (m + 1) capa) (.inl rfl)).set (a := ⟨b, 2, none⟩) (.slice ka' (m + 1) kc') (.inl rfl)) (fun gb e e2 => by injection e with e; subst e; exact hga.1 e2)
    rw [List.length_append, List.flatMap_append, HLL.out]
    exact h2
  · have h2 := rowK (S := fun k => k = b) hPown (((KpS.refl (fun k => k = b) wp).set (a := ⟨b, 1, none⟩) (.slice (some ⟨ga, 0, none⟩) (m + 1) capa) (.inl rfl)).set (a := ⟨b, 2, none⟩) (.slice ka' (m + 1) kc') (.inl rfl)) hgk
    rw [List.length_append, HLL.out]
    exact h2
  · simp [HLL.out, HLK.out]
  · rintro q (rfl | e | e)
    · exact .inl (.inl rfl)
    · have e : ga = q := by injection e
      subst e
      rcases hAblk with h9 | h9
      · exact .inl (.inr (.inl h9))
      · simp at h9; exact .inr (by omega)
    · rcases hPblk with h9 | ⟨b9, h9, h8⟩
      · exact .inl (.inr (.inr (h9.symm.trans e)))
      · have : b9 = q := by rw [h9] at e; injection e
        exact .inr (by omega)

end Go.Proofs.YtggfdlanobndjaaGreat

/- frame.lay: the nodes over some leaves are put. -/
namespace Go.Proofs.YtggfdlanobndjaaGreat
open Go.RowKit Go.Sort Go.Shelf Go.Lib Go.Maps
set_option linter.unusedSimpArgs false
set_option linter.unusedVariables false

theorem pool_put_leaf (f t it : Int) (most b base : Nat) (nv kv : Value) (kid : List Bool) (l : List Nd) (w : World) (hm : l.length < most) (hmost : most ≤ 100000) (h : PoolAt w b base most nv kv l kid) (hbw : base ≤ w.heap.size) :
    Calls Tryz.prog 139 #[.pointer (some ⟨b, 0, none⟩), vNd 1 (-1) (-1) f t it] w fun e w' => e = .returned (.tuple #[.int .i64 l.length, .int .i64 0]) ∧ PoolQ w b base most nv kv (l ++ [⟨1, -1, -1, f, t, it⟩]) (kid ++ [false]) w' := by
  obtain ⟨ka, kc, rfl⟩ := rowV h.row
  exact pool_put_any 1 (-1) (-1) f t it most b base l.length nv _ kid kid l w rfl hm hmost h.len h hbw (fun W _ => may_no f t it _ rfl W) (fun W hr hbW => put_no 1 f t it ka l.length kc base kid W h.len (by omega) hr hbW)

theorem pool_put_node (f t it : Int) (i j : Nat) (hij : i ≠ j) (most b base : Nat) (nv kv : Value) (kid : List Bool) (l : List Nd) (w : World) (hm : l.length < most) (hmost : most ≤ 100000) (hi : kid[i]? = some false) (hj : kid[j]? = some false) (h : PoolAt w b base most nv kv l kid) (hbw : base ≤ w.heap.size) :
    Calls Tryz.prog 139 #[.pointer (some ⟨b, 0, none⟩), vNd 2 i j f t it] w fun e w' => e = .returned (.tuple #[.int .i64 l.length, .int .i64 0]) ∧ PoolQ w b base most nv kv (l ++ [⟨2, i, j, f, t, it⟩]) ((kid.set i true).set j true ++ [false]) w' := by
  have hil := (List.getElem?_eq_some_iff.1 hi).1
  have hjl := (List.getElem?_eq_some_iff.1 hj).1
  have hkl := h.len
  obtain ⟨g, c, rfl, _, _, _, _⟩ := ownRow_at h.row (by omega)
  exact pool_put_any 2 i j f t it most b base l.length nv _ kid ((kid.set i true).set j true) l w rfl hm hmost (by simp [hkl]) h hbw (fun W hr => may_two f t it i j hij g l.length c base kid W hkl (by omega) hi hj hr) (fun W hr hbW => put_two 2 f t it i j g l.length c base kid W hkl (by omega) (by omega) (by omega) hr hbW)

/-- the kids' marks once a tree is laid -/
def mk2 (n : Nat) : List Bool := List.replicate (2 * n - 2) true ++ [false]
theorem mk2_len (n : Nat) (h : 0 < n) : (mk2 n).length = 2 * n - 1 := by simp [mk2]; omega
theorem mk2_one : mk2 1 = [false] := rfl
theorem mk2_join (kid : List Bool) (n1 n2 : Nat) (h1 : 0 < n1) (h2 : 0 < n2) :
    (((kid ++ mk2 n1) ++ mk2 n2).set (kid.length + (2 * n1 - 2)) true).set (kid.length + (2 * n1 - 1) + (2 * n2 - 2)) true ++ [false] = kid ++ mk2 (n1 + n2) := by
  unfold mk2
  have e1 : ∀ (A : List Bool) (k : Nat), (A ++ (List.replicate k true ++ [false])).set (A.length + k) true = A ++ List.replicate (k + 1) true := fun A k => by
    rw [← List.append_assoc, List.set_append_right _ _ (by simp), List.length_append, List.length_replicate, Nat.sub_self, List.append_assoc, List.replicate_succ']
    rfl
  have e2 := e1 (kid ++ List.replicate (2 * n1 - 2 + 1) true) (2 * n2 - 2)
  rw [show (kid ++ List.replicate (2 * n1 - 2 + 1) true).length + (2 * n2 - 2) = kid.length + (2 * n1 - 1) + (2 * n2 - 2) by simp; omega] at e2
  rw [List.set_append_left _ _ (by simp), e1 kid (2 * n1 - 2), e2, List.append_assoc, List.append_assoc]
  congr 1
  rw [← List.append_assoc, List.replicate_append_replicate]
  congr 2
  omega
theorem mk2_left (kid : List Bool) (n1 n2 : Nat) (h1 : 0 < n1) : ((kid ++ mk2 n1) ++ mk2 n2)[kid.length + (2 * n1 - 2)]? = some false := by
  unfold mk2
  rw [List.getElem?_append_left (by simp), List.getElem?_append_right (by simp), List.getElem?_append_right (by simp)]
  simp
theorem mk2_right (kid : List Bool) (n1 n2 : Nat) (h1 : 0 < n1) (h2 : 0 < n2) : ((kid ++ mk2 n1) ++ mk2 n2)[kid.length + (2 * n1 - 1) + (2 * n2 - 2)]? = some false := by
  unfold mk2
  rw [List.getElem?_append_right (by simp; omega), List.getElem?_append_right (by simp; omega)]
  rw [show kid.length + (2 * n1 - 1) + (2 * n2 - 2) - (kid ++ (List.replicate (2 * n1 - 2) true ++ [false])).length - (List.replicate (2 * n2 - 2) true).length = 0 by simp; omega]
  rfl

set_option maxRecDepth 100000 in
set_option maxHeartbeats 4000000 in
theorem frame_lay (n : Nat) : ∀ (a c most b base : Nat) (nv kv : Value) (l : List Nd) (kid : List Bool) (w : World), c = a + n → 0 < n → l.length + (2 * n - 1) ≤ most → most ≤ 100000 → c ≤ 50000 → PoolAt w b base most nv kv l kid → base ≤ w.heap.size →
    Calls Tryz.prog 102 #[.pointer (some ⟨b, 0, none⟩), .int .i64 a, .int .i64 c] w fun e w' => e = .returned (.int .i64 ((l.length + (2 * n - 2) : Nat) : Int)) ∧ PoolQ w b base most nv kv (l ++ (mkT a n).nodes l.length) (kid ++ mk2 n) w' := by
  induction n using Nat.strongRecOn with
  | ind n ih =>
  intro a c most b base nv kv l kid w hc hn hmo hmost hc5 hP hbw
  have hbl := hP.lt b (.inl rfl)
  by_cases h1 : n = 1
  · subst h1
    subst hc
    have CP := Lib.hid (fun W (h : PoolAt W b base most nv kv l kid) (hb : base ≤ W.heap.size) => pool_put_leaf (a : Int) ((a + 1 : Nat) : Int) (a : Int) most b base nv kv kid l W (by omega) hmost h hb)
    have HP := Lib.hid hP
    have d1 : decide (((a + 1 : Nat) : Int) - (a : Int) > 1) = false := by simp; omega
    have d2 : decide ((1 : Int) < ((a + 1 : Nat) : Int) - (a : Int)) = false := by simp; omega
    have e1 : (mkT a 1).nodes l.length = [⟨1, -1, -1, a, ((a + 1 : Nat) : Int), a⟩] := by rw [mkT_one a 1 (by omega)]; simp [FT.nodes]
    rw [e1]
    clear e1 hP ih hmo
    generalize hcc : a + 1 = c at *
    have hcl : c ≤ 50000 ∧ a < c := by omega
    clear hcc
    go_enter Tryz.func102, Tryz.ntmps102
    go_wp2_with fail
    refine (CP.out _ (HP.out.kept ((KpS.refl (fun _ => False) w).alloc _) (fun _ _ h => h)) (by simp; omega)).mono ?_
    rintro e w1 ⟨rfl, hQ⟩
    have HQ := Lib.hid hQ
    clear hQ
    go_wp2
    go_ret
    refine ⟨rfl, ?_⟩
    exact PoolQ.trans (fun k h => .inl h) ((KpS.refl _ w).alloc _) HQ.out
  · obtain ⟨n1, hn1⟩ : ∃ n1, n1 = n - n / 2 := ⟨_, rfl⟩
    obtain ⟨n2, hn2⟩ : ∃ n2, n2 = n / 2 := ⟨_, rfl⟩
    obtain ⟨m, hm⟩ : ∃ m, m = a + n1 := ⟨_, rfl⟩
    have e1 : (mkT a n).nodes l.length = (mkT a n1).nodes l.length ++ (mkT m n2).nodes (l.length + (2 * n1 - 1)) ++ [⟨2, ((l.length + (2 * n1 - 2) : Nat) : Int), ((l.length + (2 * n1 - 1) + (2 * n2 - 2) : Nat) : Int), a, c, 0⟩] := by
      rw [mkT_two a n (by omega), FT.nodes, ← hn1, ← hn2, ← hm, mkT_size a n1 (by omega), mkT_size m n2 (by omega), (mkT_spec a n1 (by omega)).2.1, (mkT_spec m n2 (by omega)).2.2]
      congr 3
      · omega
      · omega
      · omega
    rw [e1, show n = n1 + n2 by omega]
    clear e1
    obtain ⟨I, hI⟩ : ∃ I, I = l.length + (2 * n1 - 2) := ⟨_, rfl⟩
    obtain ⟨J, hJ⟩ : ∃ J, J = l.length + (2 * n1 - 1) + (2 * n2 - 2) := ⟨_, rfl⟩
    have HL : Hid (∀ W, PoolAt W b base most nv kv l kid → base ≤ W.heap.size → Calls Tryz.prog 102 #[.pointer (some ⟨b, 0, none⟩), .int .i64 a, .int .i64 m] W fun e w' => e = .returned (.int .i64 I) ∧ PoolQ W b base most nv kv (l ++ (mkT a n1).nodes l.length) (kid ++ mk2 n1) w') :=
      fun W h hb => (ih n1 (by omega) a m most b base nv kv l kid W hm (by omega) (by omega) hmost (by omega) h hb).mono fun e w' ⟨he, hq⟩ => ⟨by rw [he, hI], hq⟩
    have HR : Hid (∀ W nv kv l2 kid2, l2.length = l.length + (2 * n1 - 1) → PoolAt W b base most nv kv l2 kid2 → base ≤ W.heap.size → Calls Tryz.prog 102 #[.pointer (some ⟨b, 0, none⟩), .int .i64 m, .int .i64 c] W fun e w' => e = .returned (.int .i64 J) ∧ PoolQ W b base most nv kv (l2 ++ (mkT m n2).nodes l2.length) (kid2 ++ mk2 n2) w') :=
      fun W nv kv l2 kid2 h2 h hb => (ih n2 (by omega) m c most b base nv kv l2 kid2 W (by omega) (by omega) (by omega) hmost hc5 h hb).mono fun e w' ⟨he, hq⟩ => ⟨by rw [he, hJ, h2], hq⟩
    have HIJ : Hid (I = l.length + (2 * n1 - 2) ∧ J = l.length + (2 * n1 - 1) + (2 * n2 - 2)) := ⟨hI, hJ⟩
    rw [← hI, ← hJ]
    clear hI hJ
    have HP := Lib.hid hP
    have hmid : (c : Int) - ((c : Int) - (a : Int)) / 2 = (m : Int) := by omega
    have hac : (a : Int) < c ∧ (c : Int) ≤ 50000 := by omega
    have hn12 : 0 < n1 ∧ 0 < n2 := by omega
    have d1 : decide ((c : Int) - (a : Int) > 1) = true := by simp; omega
    have d2 : decide ((1 : Int) < (c : Int) - (a : Int)) = true := by simp; omega
    have H12 : Hid (l.length + (2 * (n1 + n2) - 1) ≤ most) := (show l.length + (2 * (n1 + n2) - 1) ≤ most by omega)
    clear ih hP hc hn hmo h1 hn1 hn2 hm
    go_enter Tryz.func102, Tryz.ntmps102
    go_wp2_with fail
    obtain ⟨wa, ewa⟩ : ∃ wa, wa = w.alloc (.cells #[.int .u8 2, .int .i64 (-1), .int .i64 (-1), .int .i64 a, .int .i64 c, .int .i64 0, .int .i64 0] 119) := ⟨_, rfl⟩
    rw [← ewa]
    have HPa : Hid (PoolAt wa b base most nv kv l kid) := by rw [ewa]; exact HP.out.kept ((KpS.refl (fun _ => False) w).alloc _) (fun _ _ h => h)
    have hXa : wa.heap[w.heap.size]? = some (.cells #[.int .u8 2, .int .i64 (-1), .int .i64 (-1), .int .i64 a, .int .i64 c, .int .i64 0, .int .i64 0] 119 (0, 0)) := by rw [ewa]; exact lit0 w _
    have HKa : Hid (KpS (poolS b nv kv) w wa) := by rw [ewa]; exact (KpS.refl _ w).alloc _
    have hXl : w.heap.size < wa.heap.size := by rw [ewa]; simp
    have hS0 : ∀ k, poolS b nv kv k → k < w.heap.size := HP.out.lt
    have HS0 := Lib.hid hS0
    clear ewa hS0
    refine (HL.out _ HPa.out (by omega)).mono ?_
    rintro e w1 ⟨rfl, nv1, kv1, A1, hs1, K1⟩
    have HX1 : Hid (w1.heap[w.heap.size]? = some (.cells #[.int .u8 2, .int .i64 (-1), .int .i64 (-1), .int .i64 a, .int .i64 c, .int .i64 0, .int .i64 0] 119 (0, 0))) := (K1.block _ hXl (fun h => by have := HS0.out _ h; omega)).trans hXa
    have hz1 := K1.size
    have HA1 := Lib.hid A1
    have HS1 := Lib.hid hs1
    have HK1 := Lib.hid K1
    have u1 : w1.cell? ⟨w.heap.size, 1, none⟩ = some (.int .i64 (-1)) := by have h9 := HX1.out; simp [World.cell?, h9]
    have v1 : w1.frozen? ⟨w.heap.size, 1, none⟩ = false := by have h9 := HX1.out; simp [World.frozen?, h9]
    clear A1 hs1 K1 hXa
    go_wp2_with fail
    have HX2 := Lib.hid (heap_setCell_same w1 w.heap.size 1 _ _ (.int .i64 (I : Int)) HX1.out)
    have HK2 : Hid (KpS (fun k => k = w.heap.size) w1 (w1.setCell ⟨w.heap.size, 1, none⟩ (.int .i64 (I : Int)))) := (KpS.refl _ w1).set (a := ⟨w.heap.size, 1, none⟩) _ (.inl rfl)
    simp only [List.setIfInBounds_toArray, List.set_cons_succ, List.set_cons_zero] at HX2
    generalize w1.setCell ⟨w.heap.size, 1, none⟩ (.int .i64 (I : Int)) = w2 at *
    have hS1 : ∀ k, poolS b nv1 kv1 k → k ≠ w.heap.size := fun k h e => by
      rcases HS1.out k h with h9 | h9
      · have := HS0.out _ h9; omega
      · omega
    have HSX := Lib.hid hS1
    have hz2 := HK2.out.size
    clear hS1 u1 v1
    refine (HR.out w2 nv1 kv1 _ _ (by rw [List.length_append, FT.nodes_len, mkT_size a n1 hn12.1]) (HA1.out.kept HK2.out (fun k h e => HSX.out k h e)) (by omega)).mono ?_
    rintro e w3 ⟨rfl, nv3, kv3, A3, hs3, K3⟩
    have hXl2 : w.heap.size < w2.heap.size := by omega
    have HX3 : Hid (w3.heap[w.heap.size]? = some (.cells #[.int .u8 2, .int .i64 I, .int .i64 (-1), .int .i64 a, .int .i64 c, .int .i64 0, .int .i64 0] 119 (0, 0))) := (K3.block _ hXl2 (fun h => HSX.out _ h rfl)).trans HX2.out
    have hz3 := K3.size
    have HA3 := Lib.hid A3
    have HS3 := Lib.hid hs3
    have HK3 := Lib.hid K3
    have u3 : w3.cell? ⟨w.heap.size, 2, none⟩ = some (.int .i64 (-1)) := by have h9 := HX3.out; simp [World.cell?, h9]
    have v3 : w3.frozen? ⟨w.heap.size, 2, none⟩ = false := by have h9 := HX3.out; simp [World.frozen?, h9]
    clear A3 hs3 K3
    have HXX3 : Hid (w3.setCell ⟨w.heap.size, 2, none⟩ (.int .i64 J) = w3.setCell ⟨w.heap.size, 2, none⟩ (.int .i64 J)) := rfl
    have HX4 := Lib.hid (heap_setCell_same w3 w.heap.size 2 _ _ (.int .i64 (J : Int)) HX3.out)
    have HK4 : Hid (KpS (fun k => k = w.heap.size) w3 (w3.setCell ⟨w.heap.size, 2, none⟩ (.int .i64 (J : Int)))) := (KpS.refl _ w3).set (a := ⟨w.heap.size, 2, none⟩) _ (.inl rfl)
    simp only [List.setIfInBounds_toArray, List.set_cons_succ, List.set_cons_zero] at HX4
    have y : (∀ o, o < 7 → (w3.setCell ⟨w.heap.size, 2, none⟩ (.int .i64 (J : Int))).cell? ⟨w.heap.size, o, none⟩ = [Value.int .u8 2, .int .i64 I, .int .i64 J, .int .i64 a, .int .i64 c, .int .i64 0, .int .i64 0][o]?) := fun o ho => by have h9 := HX4.out; simp [World.cell?, h9]
    have y0 := y 0 (by omega)
    have y1 := y 1 (by omega)
    have y2 := y 2 (by omega)
    have y3 := y 3 (by omega)
    have y4 := y 4 (by omega)
    have y5 := y 5 (by omega)
    have y6 := y 6 (by omega)
    simp only [List.getElem?_cons_zero, List.getElem?_cons_succ] at y0 y1 y2 y3 y4 y5 y6
    clear y
    go_wp2_with fail
    generalize w3.setCell ⟨w.heap.size, 2, none⟩ (.int .i64 (J : Int)) = w4 at *
    have hS3 : ∀ k, poolS b nv3 kv3 k → k ≠ w.heap.size := fun k h e => by
      rcases HS3.out k h with h9 | h9
      · exact HSX.out k h9 e
      · omega
    have hz4 := HK4.out.size
    have A4 := HA3.out.kept HK4.out (fun k h e => hS3 k h e)
    have hl2 : (l ++ (mkT a n1).nodes l.length).length = l.length + (2 * n1 - 1) := by rw [List.length_append, FT.nodes_len, mkT_size a n1 hn12.1]
    have hl3 : ((l ++ (mkT a n1).nodes l.length) ++ (mkT m n2).nodes (l.length + (2 * n1 - 1))).length = l.length + (2 * (n1 + n2) - 2) := by rw [List.length_append, hl2, FT.nodes_len, mkT_size m n2 hn12.2]; omega
    rw [hl2] at A4
    have hkl := HP.out.len
    have CP := pool_put_node (a : Int) c 0 I J (by have := HIJ.out; omega) most b base nv3 kv3 _ _ w4 (by rw [hl3]; have := H12.out; omega) hmost (by rw [HIJ.out.1, ← hkl]; exact mk2_left kid n1 n2 hn12.1) (by rw [HIJ.out.2, ← hkl]; exact mk2_right kid n1 n2 hn12.1 hn12.2) A4 (by omega)
    rw [hl3, show ((kid ++ mk2 n1 ++ mk2 n2).set I true).set J true ++ [false] = kid ++ mk2 (n1 + n2) by rw [HIJ.out.1, HIJ.out.2, ← hkl]; exact mk2_join kid n1 n2 hn12.1 hn12.2] at CP
    refine CP.mono ?_
    rintro e w5 ⟨rfl, hQ⟩
    have HQ := Lib.hid hQ
    clear hQ CP A4 hl3 hl2 hkl
    go_wp2
    go_ret
    refine ⟨by rw [Nat.mul_comm]; rfl, ?_⟩
    rw [List.append_assoc, List.append_assoc] at HQ
    rw [List.append_assoc]
    have hs4 : ∀ k, poolS b nv3 kv3 k → poolS b nv kv k ∨ w.heap.size ≤ k := fun k h => by
      rcases HS3.out k h with h9 | h9
      · rcases HS1.out k h9 with h8 | h8
        · exact .inl h8
        · exact .inr (by omega)
      · exact .inr (by omega)
    refine PoolQ.trans hs4 ?_ HQ.out
    have KX : KpS (fun k => poolS b nv kv k ∨ w.heap.size ≤ k) w w4 :=
      (((HKa.out.mono (fun k h => .inl h)).trans (HK1.out.mono (fun k h => .inl h))).trans (HK2.out.mono (fun k h => .inr (by omega)))).trans ((HK3.out.mono (fun k h => by
        rcases HS1.out k h with h8 | h8
        · exact .inl h8
        · exact .inr (by omega))).trans (HK4.out.mono (fun k h => .inr (by omega))))
    exact KX.strip

end Go.Proofs.YtggfdlanobndjaaGreat

/- sync.Once: Do, the first time and later, at whatever function. -/
namespace Go.Proofs.YtggfdlanobndjaaGreat
open Go.RowKit
set_option linter.unusedSimpArgs false
set_option linter.unusedVariables false

theorem once_disable (w : World) : (callFunc 168 #[]).run Tryz.prog w = .ok (.value (.tuple #[])) w := run_call_mark0 Tryz.func168 (by kernel_rfl) (by kernel_rfl) (by kernel_rfl) .disable (by kernel_rfl) w
theorem once_enable (w : World) : (callFunc 170 #[]).run Tryz.prog w = .ok (.value (.tuple #[])) w := run_call_mark0 Tryz.func170 (by kernel_rfl) (by kernel_rfl) (by kernel_rfl) .enable (by kernel_rfl) w
theorem once_acquire (a : Addr) (w : World) : (callFunc 171 #[.pointer (some a)]).run Tryz.prog w = .ok (.value (.tuple #[])) w := run_call_marked Tryz.func171 (by kernel_rfl) (by kernel_rfl) (by kernel_rfl) .acquire (by kernel_rfl) a w
theorem once_merge (a : Addr) (w : World) : (callFunc 173 #[.pointer (some a)]).run Tryz.prog w = .ok (.value (.tuple #[])) w := run_call_marked Tryz.func173 (by kernel_rfl) (by kernel_rfl) (by kernel_rfl) .releaseMerge (by kernel_rfl) a w

/-- '(*sync/atomic.Bool).Store(true)', entered as a deferred call -/
theorem once_store (a : Addr) (x : Value) (u : FrameMode) (w : World) (hc : w.cell? a = some x) (hz : w.frozen? a = false) :
    CallsD Tryz.prog 157 #[.pointer (some a), .bool true] u w fun e u' w' => u' = u ∧ (e = .returned (.tuple #[]) ∧ w' = w.drew.setCell a (.int .u32 1)) := by
  have hc' : w.drew.cell? a = some x := by go_simp
  have hz' : w.drew.frozen? a = false := by go_simp
  have hst := run_call_store (P := Tryz.prog) Tryz.func165 (by kernel_rfl) (by kernel_rfl) (by kernel_rfl) (by kernel_rfl) (k := .u32) (y := 1) hc' hz'
  go_enter_d Tryz.func157, Tryz.ntmps157
  go_wp2
  go_region_calls
  all_goals (go_end0; exact ⟨rfl, rfl⟩)

set_option maxRecDepth 100000 in
set_option maxHeartbeats 1000000 in
/-- '(*sync.Mutex).Unlock', entered as a deferred call, the lock held and nobody waiting -/
theorem once_unlock (a : Addr) (u : FrameMode) (w : World) (hc : w.cell? a = some (.int .i32 1)) (hz : w.frozen? a = false) :
    CallsD Tryz.prog 156 #[.pointer (some a)] u w fun e u' w' => u' = u ∧ (e = .returned (.tuple #[]) ∧ w' = w.setCell a (.int .i32 0)) := by
  have hadd := run_call_add (P := Tryz.prog) Tryz.func174 (by kernel_rfl) (by kernel_rfl) (by kernel_rfl) .i32 (by kernel_rfl) (y := -1) (s := 0) hc hz (by simp [go_sem]; rfl)
  have hd := once_disable
  have he := once_enable
  have hr := once_merge
  have hcv := run_convert_to_unsafe (P := Tryz.prog) (src := 245) (dst := 249) Tryz.underlying245 Tryz.underlying249 (by kernel_rfl) hc
  go_enter_d Tryz.func156, Tryz.ntmps156
  go_wp2
  go_end0
  go_wp2
  go_end0
  exact ⟨rfl, rfl⟩

set_option maxRecDepth 100000 in
set_option maxHeartbeats 1000000 in
/-- '(*sync.Mutex).Lock', the lock free -/
theorem once_lock (a : Addr) (w : World) (hc : w.cell? a = some (.int .i32 0)) (hz : w.frozen? a = false) :
    Calls Tryz.prog 155 #[.pointer (some a)] w fun e w' => e = .returned (.tuple #[]) ∧ w' = w.setCell a (.int .i32 1) := by
  have hcas := run_call_cas_hit (P := Tryz.prog) Tryz.func169 (by kernel_rfl) (by kernel_rfl) (by kernel_rfl) .i32 (by kernel_rfl) (y := 1) hc hz
  have hc' : (w.setCell a (.int .i32 1)).cell? a = some (.int .i32 1) := World.cell?_setCell_same w a _ hc
  have hd := once_disable
  have he := once_enable
  have ha := once_acquire
  have hcv := run_convert_to_unsafe (P := Tryz.prog) (src := 245) (dst := 249) Tryz.underlying245 Tryz.underlying249 (by kernel_rfl) hc'
  go_enter Tryz.func155, Tryz.ntmps155
  go_wp2
  first | go_end0 | (simp only [Exit.inBlock, Exit.then]; refine bodyPost_ret (results_none rfl _ _ _) rfl ?_) | refine bodyPost_ret (results_none rfl _ _ _) rfl ?_
  go_wp2
  go_end0
  exact ⟨rfl, rfl⟩


/-- what the function that is called once must leave -/
def OnceR (R : World → Prop) (b off : Nat) (e : Ending) (w' : World) : Prop :=
  e = .returned (.tuple #[]) ∧ R w' ∧ w'.cell? ⟨b, off, none⟩ = some (.int .u32 0) ∧ w'.cell? ⟨b, off + 1, none⟩ = some (.int .i32 1) ∧ w'.frozen? ⟨b, off, none⟩ = false ∧ w'.frozen? ⟨b, off + 1, none⟩ = false
def OnceP (R : World → Prop) (b off : Nat) (e : Ending) (w' : World) : Prop :=
  e = .returned (.tuple #[]) ∧ ∃ w1, R w1 ∧ w' = (w1.drew.setCell ⟨b, off, none⟩ (.int .u32 1)).setCell ⟨b, off + 1, none⟩ (.int .i32 0)

set_option maxRecDepth 100000 in
set_option maxHeartbeats 2000000 in
theorem once_slow {R : World → Prop} (b off : Nat) (cv : Value) (w : World) (h0 : w.cell? ⟨b, off, none⟩ = some (.int .u32 0)) (h1 : w.cell? ⟨b, off + 1, none⟩ = some (.int .i32 0)) (f0 : w.frozen? ⟨b, off, none⟩ = false) (f1 : w.frozen? ⟨b, off + 1, none⟩ = false)
    (C : Calls Tryz.prog 100 #[cv] (w.setCell ⟨b, off + 1, none⟩ (.int .i32 1)) (OnceR R b off)) :
    Calls Tryz.prog 138 #[.pointer (some ⟨b, off, none⟩), .func (.func 100) #[] #[cv]] w (OnceP R b off) := by
  have hl := run_call_load (P := Tryz.prog) Tryz.func154 (by kernel_rfl) (by kernel_rfl) (by kernel_rfl) .u32 (by kernel_rfl) (w := w.setCell ⟨b, off + 1, none⟩ (.int .i32 1)) (a := ⟨b, off, none⟩) (x := 0) ((World.cell?_setCell_other _ ⟨b, off + 1, none⟩ ⟨b, off, none⟩ _ (by simp)).trans h0)
  have hnot : ∀ (x : Bool) (w : World), (Op.unary .not (.bool x)).run Tryz.prog w = .ok (.bool (!x)) w := fun _ _ => rfl
  have HC := Lib.hid C
  have LK := Lib.hid (once_lock ⟨b, off + 1, none⟩ w h1 f1)
  clear C h1
  go_enter_defers Tryz.func138, Tryz.ntmps138
  go_wp2_with (first | (go_at_call 155; refine LK.out.mono ?_; rintro e w' ⟨rfl, rfl⟩) | (go_at_call 100; refine HC.out.mono ?_; rintro e w1 ⟨rfl, hR, k0, k1, z0, z1⟩) | (go_at_call 137; go_in))
  refine leaves_cons (f := 157) (args := #[.pointer (some ⟨b, off, none⟩), .bool true]) (by simp) (by simp [go_sem]) ?_
  refine (once_store ⟨b, off, none⟩ (.int .u32 0) .returning w1 k0 z0).mono ?_
  rintro e u' w'' ⟨rfl, rfl, rfl⟩
  refine leaves_cons (f := 156) (args := #[.pointer (some ⟨b, off + 1, none⟩)]) (by simp [settle]) (by simp [go_sem]) ?_
  refine (once_unlock ⟨b, off + 1, none⟩ _ _ ?_ (by simp [z1])).mono ?_
  · refine (World.cell?_setCell_other _ ⟨b, off, none⟩ ⟨b, off + 1, none⟩ _ (by simp)).trans ?_
    rw [World.cell?_drew]
    exact k1
  rintro e u' w'' ⟨rfl, rfl, rfl⟩
  have HF : OnceP R b off (.returned (.tuple #[])) ((w1.drew.setCell ⟨b, off, none⟩ (.int .u32 1)).setCell ⟨b, off + 1, none⟩ (.int .i32 0)) := ⟨rfl, w1, hR, rfl⟩
  simp [Leaves, settle, results, Tryz.results138]
  exact HF

set_option maxRecDepth 100000 in
set_option maxHeartbeats 2000000 in
theorem once_first {R : World → Prop} (b off : Nat) (cv : Value) (w : World) (h0 : w.cell? ⟨b, off, none⟩ = some (.int .u32 0)) (h1 : w.cell? ⟨b, off + 1, none⟩ = some (.int .i32 0)) (f0 : w.frozen? ⟨b, off, none⟩ = false) (f1 : w.frozen? ⟨b, off + 1, none⟩ = false)
    (C : Calls Tryz.prog 100 #[cv] (w.setCell ⟨b, off + 1, none⟩ (.int .i32 1)) (OnceR R b off)) :
    Calls Tryz.prog 99 #[.pointer (some ⟨b, off, none⟩), .func (.func 100) #[] #[cv]] w (OnceP R b off) := by
  have hl := run_call_load (P := Tryz.prog) Tryz.func154 (by kernel_rfl) (by kernel_rfl) (by kernel_rfl) .u32 (by kernel_rfl) h0
  have hnot : ∀ (x : Bool) (w : World), (Op.unary .not (.bool x)).run Tryz.prog w = .ok (.bool (!x)) w := fun _ _ => rfl
  have SL := Lib.hid (once_slow b off cv w h0 h1 f0 f1 C)
  clear C
  go_enter Tryz.func99, Tryz.ntmps99
  go_wp2_with (first | (go_at_call 138; refine SL.out.mono ?_; rintro e w' ⟨rfl, HO⟩; have HOP := Lib.hid HO; clear HO) | (go_at_call 137; go_in))
  go_end0
  exact ⟨rfl, HOP.out⟩

set_option maxRecDepth 100000 in
theorem once_done (a : Addr) (fv : Value) (w : World) (h0 : w.cell? a = some (.int .u32 1)) :
    Calls Tryz.prog 99 #[.pointer (some a), fv] w fun e w' => e = .returned (.tuple #[]) ∧ w' = w := by
  have hl := run_call_load (P := Tryz.prog) Tryz.func154 (by kernel_rfl) (by kernel_rfl) (by kernel_rfl) .u32 (by kernel_rfl) h0
  have hnot : ∀ (x : Bool) (w : World), (Op.unary .not (.bool x)).run Tryz.prog w = .ok (.bool (!x)) w := fun _ _ => rfl
  go_enter Tryz.func99, Tryz.ntmps99
  go_wp2
  go_end0
  exact ⟨rfl, rfl⟩

end Go.Proofs.YtggfdlanobndjaaGreat

/- package frame: New, none, Leaves, Root, the nodes made once, Nodes, Path. -/
namespace Go.Proofs.YtggfdlanobndjaaGreat
open Go.RowKit Go.Sort Go.Shelf Go.Lib Go.Maps
attribute [local irreducible] wpQuiet
attribute [local go_sem] Oper.still1
set_option linter.unusedSimpArgs false
set_option linter.unusedVariables false

theorem ownB {g n c gb : Nat} (e : (Value.slice (some ⟨g, 0, none⟩) n c).ownBlock = some gb) : g = gb := by injection e
/-- the nodes over n leaves -/
def nds (n : Nat) : List Nd := if n = 0 then [] else (mkT 0 n).nodes 0
theorem nds_len (n : Nat) : (nds n).length = 2 * n - 1 := by
  unfold nds
  split
  · subst n; rfl
  · rw [FT.nodes_len, mkT_size 0 n (by omega)]

abbrev oFrm (d m : Int) (nv : Value) (n : Nat) : Obj := .cells #[.int .u32 d, .int .i32 m, .int .u32 0, nv, .int .i64 n, .bool true] 149 (0, 0)

set_option maxRecDepth 100000 in
theorem frame_new (n : Nat) (hn : n ≤ 100000) (w : World) :
    Calls Tryz.prog 41 #[.int .i64 n] w fun e w' => e = .returned (.tuple #[.pointer (some ⟨w.heap.size, 0, none⟩), .int .i64 0]) ∧ w' = w.alloc (oFrm 0 0 (.slice none 0 0) n) := by
  refine calls_of_wp Tryz.func41 rfl ?_
  simp only [Tryz.ntmps41, List.size_toArray, List.length_cons, List.length_nil, Nat.reduceAdd, Nat.reduceSub, Array.replicate_succ, Array.replicate_zero, List.push_toArray, List.append_toArray, List.nil_append, List.cons_append]
  go_wp2
  go_ret2
  exact ⟨rfl, rfl⟩

theorem enters_pnodes : ∀ args w, (callFunc 103 args).run Tryz.prog w = .ok (.enter 103 args) w := enters_of Tryz.func103 (by kernel_rfl) rfl

def All1P (w : World) (fb n : Nat) (e : Ending) (w' : World) : Prop :=
  e = .returned (.tuple #[]) ∧ ∃ nv, w'.ownsRow w.heap.size 119 7 nv (nds n).length ((nds n).flatMap eNd) ∧ w'.heap[fb]? = some (oFrm 0 1 nv n) ∧ KpS (fun k => k = fb) w w'

set_option maxRecDepth 100000 in
set_option maxHeartbeats 4000000 in
theorem frame_all1 (fb cb n : Nat) (hn : n ≤ 40000) (w : World) (hcb : w.cell? ⟨cb, 0, none⟩ = some (.pointer (some ⟨fb, 0, none⟩))) (hf : w.heap[fb]? = some (oFrm 0 1 (.slice none 0 0) n)) (hne : cb ≠ fb) :
    Calls Tryz.prog 100 #[.pointer (some ⟨cb, 0, none⟩)] w (All1P w fb n) := by
  have hcl : cb < w.heap.size := World.block_lt_of_cell? w _ hcb
  have hfl : fb < w.heap.size := (Array.getElem?_eq_some_iff.1 hf).1
  have f4 : w.cell? ⟨fb, 4, none⟩ = some (.int .i64 n) := by simp [World.cell?, hf]
  obtain ⟨M, hM⟩ : ∃ M, M = 2 * n := ⟨_, rfl⟩
  have h2n : (2 : Int) * (n : Int) = (M : Int) := by omega
  have CN := pool_new M (by omega) w
  have HF := Lib.hid hf
  have HP : Hid (PoolAt (w.alloc (.cells #[.int .i64 M, .slice none 0 0, .slice none 0 0, .bool true] 213)) w.heap.size w.heap.size M (.slice none 0 0) (.slice none 0 0) [] []) :=
    ⟨lit0 _ _, World.ownsRow_nil _ _ _ _, World.ownsRow_nil _ _ _ _, rfl⟩
  have hB0 : Below w.heap.size w (w.alloc (.cells #[.int .i64 M, .slice none 0 0, .slice none 0 0, .bool true] 213)) := (Below.refl _ _).alloc (Nat.le_refl _) _
  have fin : ∀ (w1 : World) nv kv kid, PoolAt w1 w.heap.size w.heap.size M nv kv (nds n) kid → Below w.heap.size w w1 → Calls Tryz.prog 103 #[.pointer (some ⟨w.heap.size, 0, none⟩)] w1 fun e w' => ∃ v, e = .returned v ∧ w'.ownsRow w1.heap.size 119 7 v (nds n).length ((nds n).flatMap eNd) ∧ Below w1.heap.size w1 w' := fun w1 nv kv kid h hb => by
    obtain ⟨na, nc, rfl, -, -, hr⟩ := RdK.of_owns eNd_len (by decide) h.nod
    exact pool_nodes M w.heap.size na nc kv (nds n) w1 h.blk hr (by rw [nds_len]; omega)
  by_cases h0 : n = 0
  · have h0n : Hid (nds n = []) := by show nds n = []; rw [h0]; rfl
    have fin := Lib.hid fin
    have g0 := (hB0.cell (p := ⟨cb, 0, none⟩) hcl).trans hcb
    have g4 := (hB0.cell (p := ⟨fb, 4, none⟩) hfl).trans f4
    have HB0 := Lib.hid hB0
    have d1 : decide ((n : Int) > 0) = false := by simp; omega
    have d2 : decide ((0 : Int) < (n : Int)) = false := by simp; omega
    have d3 : decide (0 < n) = false := by simp; omega
    clear hf hM hB0 h0
    go_enter Tryz.func100, Tryz.ntmps100
    go_wp2_with fail
    with_reducible refine CN.mono ?_
    rintro e w1 ⟨rfl, rfl⟩
    clear CN
    go_wp2_with fail
    have HPW : Hid (PoolAt (w.alloc (.cells #[.int .i64 M, .slice none 0 0, .slice none 0 0, .bool true] 213)).drew w.heap.size w.heap.size M (.slice none 0 0) (.slice none 0 0) (nds n) []) := by rw [h0n.out]; exact ⟨HP.out.blk, HP.out.nod, HP.out.row, rfl⟩
    have HBW : Hid (Below w.heap.size w (w.alloc (.cells #[.int .i64 M, .slice none 0 0, .slice none 0 0, .bool true] 213))) := HB0
    have FIN : Hid (∀ w1, PoolAt w1 w.heap.size w.heap.size M (.slice none 0 0) (.slice none 0 0) (nds n) [] → Below w.heap.size w w1 → Calls Tryz.prog 103 #[.pointer (some ⟨w.heap.size, 0, none⟩)] w1 fun e w' => ∃ v, e = .returned v ∧ w'.ownsRow w1.heap.size 119 7 v (nds n).length ((nds n).flatMap eNd) ∧ Below w1.heap.size w1 w') := fun w1 h1 h2 => fin.out w1 _ _ _ h1 h2
    clear HP fin
    generalize (w.alloc (.cells #[.int .i64 M, .slice none 0 0, .slice none 0 0, .bool true] 213)) = W1 at *
    have HC0 : Hid ((fun W : World => W.cell? ⟨cb, 0, none⟩ = some (.pointer (some ⟨fb, 0, none⟩))) W1.drew) := g0
    have gC : ∀ p : HeldW (fun W : World => W.cell? ⟨cb, 0, none⟩ = some (.pointer (some ⟨fb, 0, none⟩))), p.W.cell? ⟨cb, 0, none⟩ = some (.pointer (some ⟨fb, 0, none⟩)) := fun p => p.h
    refine wp_region_head (fun W => ∃ p : HeldW (fun W : World => W.cell? ⟨cb, 0, none⟩ = some (.pointer (some ⟨fb, 0, none⟩))), W = p.W) [3, 4, 5, 6] [(0, true), (1, false)] (by kernel_rfl) (by kernel_rfl) (fun _ _ d _ _ h => by cases d <;> exact h) ⟨⟨_, HC0.out⟩, rfl⟩ 5 rfl (by kernel_rfl) ?_
    simp only [pickB, List.filterMap_cons, List.filterMap_nil, List.getElem?_toArray, List.getElem?_cons_succ, List.getElem?_cons_zero, Option.map_some]
    repeat (refine wpHd_step (fun K hK => ?_); go_simp; first | (refine hK _ ?_; clear hK K) | (apply Exists.intro; refine ⟨fun _ => ?_, hK _ ?_⟩; rfl; clear hK K))
    refine wpHd_nil ?_
    refine wpAnyT_ready [2] (by kernel_rfl) (by simp) ?_
    refine AllReadyT.cons rfl (fun K hK => ?_) AllReadyT.nil
    refine step_call enters_pnodes rfl _ _ rfl (vals := #[.pointer (some ⟨w.heap.size, 0, none⟩)]) rfl (FIN.out W1.drew HPW.out (HBW.out.trans (Below.drewAny _ 1))) ?_
    rintro e w2 ⟨nv, rfl, hNown, hNb⟩
    refine ⟨nv, rfl, ?_⟩
    obtain ⟨na, nc, rfl⟩ := rowV hNown
    have k0 : w2.cell? ⟨cb, 0, none⟩ = some (.pointer (some ⟨fb, 0, none⟩)) := (hNb.cell (p := ⟨cb, 0, none⟩) (by have := HBW.out.size; exact Nat.lt_of_lt_of_le hcl this)).trans HC0.out
    refine hK _ _ (fun _ _ => ⟨⟨_, k0⟩, rfl⟩) ?_
    clear hK K
    refine wpAnyT_line [3, 4, 5, 6] _ _ _ (by kernel_rfl) ?_
    simp only [pick, List.filterMap_cons, List.filterMap_nil, List.getElem?_toArray, List.getElem?_cons_succ, List.getElem?_cons_zero]
    have HBT : Below w.heap.size w w2 := (HBW.out.trans (Below.drewAny _ 1)).trans (hNb.mono HBW.out.size)
    have hf2 : w2.heap[fb]? = some (oFrm 0 1 (.slice none 0 0) n) := (HBT.block fb hfl).trans HF.out
    have k3 : w2.cell? ⟨fb, 3, none⟩ = some (.slice none 0 0) := by simp [World.cell?, hf2]
    have z3 : w2.frozen? ⟨fb, 3, none⟩ = false := by simp [World.frozen?, hf2]
    have HF2 := Lib.hid hf2
    have HNO := Lib.hid hNown
    have hs2 : w.heap.size ≤ W1.heap.size := HBW.out.size
    have HBT2 := Lib.hid HBT
    clear hf2 hNown hNb HBT
    go_wp2
    first | go_end0 | go_ret
    refine ⟨rfl, _, rowK (S := fun k => k = fb) (rowMono HNO.out hs2) ((KpS.refl _ w2).set (a := ⟨fb, 3, none⟩) _ (.inl rfl)) (fun gb e e2 => by have h9 := (HNO.out.lt gb e).1; have h8 : w.heap.size ≤ W1.drew.heap.size := hs2; omega), ?_, ?_⟩
    · exact heap_setCell_same w2 fb 3 _ _ _ HF2.out
    · exact ((KpS.refl (fun k => k = fb) w).below HBT2.out).set (a := ⟨fb, 3, none⟩) _ (.inl rfl)
  · have FIN0 := Lib.hid fin
    have g0 := (hB0.cell (p := ⟨cb, 0, none⟩) hcl).trans hcb
    have g4 := (hB0.cell (p := ⟨fb, 4, none⟩) hfl).trans f4
    have HB0 := Lib.hid hB0
    have d1 : decide ((n : Int) > 0) = true := by simp; omega
    have d2 : decide ((0 : Int) < (n : Int)) = true := by simp; omega
    have d3 : decide (0 < n) = true := by simp; omega
    have e1 : nds n = [] ++ (mkT 0 n).nodes ([] : List Nd).length := by unfold nds; rw [if_neg h0]; rfl
    have HL : Hid (∀ W, PoolAt W w.heap.size w.heap.size M (.slice none 0 0) (.slice none 0 0) [] [] → w.heap.size ≤ W.heap.size → Calls Tryz.prog 102 #[.pointer (some ⟨w.heap.size, 0, none⟩), .int .i64 0, .int .i64 n] W fun e w' => (∃ r, e = .returned (.int .i64 r)) ∧ PoolQ W w.heap.size w.heap.size M (.slice none 0 0) (.slice none 0 0) (nds n) ([] ++ mk2 n) w') :=
      fun W h hb => (frame_lay n 0 n M w.heap.size w.heap.size _ _ [] [] W (by omega) (by omega) (by simp; omega) (by omega) (by omega) h hb).mono fun e w' ⟨he, hq⟩ => ⟨⟨_, he⟩, by rw [e1]; exact hq⟩
    clear fin hf hM hB0 h0 e1
    go_enter Tryz.func100, Tryz.ntmps100
    go_wp2_with fail
    with_reducible refine CN.mono ?_
    rintro e w1 ⟨rfl, rfl⟩
    clear CN
    go_wp2_with fail
    with_reducible refine (HL.out _ HP.out (by simp)).mono ?_
    rintro e W1 ⟨⟨r, rfl⟩, nv, kv, hA, hs, hK⟩
    have hK9 : KpS (fun _ => False) w W1 := by
      have h9 : KpS (fun k => False ∨ w.heap.size ≤ k) w W1 := ((KpS.refl (fun k => False ∨ w.heap.size ≤ k) w).alloc _).trans (hK.mono (fun k h => by
        rcases h with h | h | h
        · exact .inr (by omega)
        · cases h
        · cases h))
      exact h9.strip
    have HBW : Hid (Below w.heap.size w W1) := hK9.toBelow (Nat.le_refl _) (fun _ h => h.elim)
    have FIN : Hid (∀ w1, PoolAt w1 w.heap.size w.heap.size M nv kv (nds n) ([] ++ mk2 n) → Below w.heap.size w w1 → Calls Tryz.prog 103 #[.pointer (some ⟨w.heap.size, 0, none⟩)] w1 fun e w' => ∃ v, e = .returned v ∧ w'.ownsRow w1.heap.size 119 7 v (nds n).length ((nds n).flatMap eNd) ∧ Below w1.heap.size w1 w') := fun w1 h1 h2 => FIN0.out w1 _ _ _ h1 h2
    have HPW : Hid (PoolAt W1.drew w.heap.size w.heap.size M nv kv (nds n) ([] ++ mk2 n)) := hA.kept (KpS.refl (fun _ => False) W1).drew (fun _ _ h => h)
    clear g0 g4 HP FIN0 HL HB0 hA hs hK hK9
    have g0 := (HBW.out.cell (p := ⟨cb, 0, none⟩) hcl).trans hcb
    go_wp2_with fail
    have HC0 : Hid ((fun W : World => W.cell? ⟨cb, 0, none⟩ = some (.pointer (some ⟨fb, 0, none⟩))) W1.drew) := g0
    have gC : ∀ p : HeldW (fun W : World => W.cell? ⟨cb, 0, none⟩ = some (.pointer (some ⟨fb, 0, none⟩))), p.W.cell? ⟨cb, 0, none⟩ = some (.pointer (some ⟨fb, 0, none⟩)) := fun p => p.h
    refine wp_region_head (fun W => ∃ p : HeldW (fun W : World => W.cell? ⟨cb, 0, none⟩ = some (.pointer (some ⟨fb, 0, none⟩))), W = p.W) [3, 4, 5, 6] [(0, true), (1, false)] (by kernel_rfl) (by kernel_rfl) (fun _ _ d _ _ h => by cases d <;> exact h) ⟨⟨_, HC0.out⟩, rfl⟩ 5 rfl (by kernel_rfl) ?_
    simp only [pickB, List.filterMap_cons, List.filterMap_nil, List.getElem?_toArray, List.getElem?_cons_succ, List.getElem?_cons_zero, Option.map_some]
    repeat (refine wpHd_step (fun K hK => ?_); go_simp; first | (refine hK _ ?_; clear hK K) | (apply Exists.intro; refine ⟨fun _ => ?_, hK _ ?_⟩; rfl; clear hK K))
    refine wpHd_nil ?_
    refine wpAnyT_ready [2] (by kernel_rfl) (by simp) ?_
    refine AllReadyT.cons rfl (fun K hK => ?_) AllReadyT.nil
    refine step_call enters_pnodes rfl _ _ rfl (vals := #[.pointer (some ⟨w.heap.size, 0, none⟩)]) rfl (FIN.out W1.drew HPW.out (HBW.out.trans (Below.drewAny _ 1))) ?_
    rintro e w2 ⟨nv, rfl, hNown, hNb⟩
    refine ⟨nv, rfl, ?_⟩
    obtain ⟨na, nc, rfl⟩ := rowV hNown
    have k0 : w2.cell? ⟨cb, 0, none⟩ = some (.pointer (some ⟨fb, 0, none⟩)) := (hNb.cell (p := ⟨cb, 0, none⟩) (by have := HBW.out.size; exact Nat.lt_of_lt_of_le hcl this)).trans HC0.out
    refine hK _ _ (fun _ _ => ⟨⟨_, k0⟩, rfl⟩) ?_
    clear hK K
    refine wpAnyT_line [3, 4, 5, 6] _ _ _ (by kernel_rfl) ?_
    simp only [pick, List.filterMap_cons, List.filterMap_nil, List.getElem?_toArray, List.getElem?_cons_succ, List.getElem?_cons_zero]
    have HBT : Below w.heap.size w w2 := (HBW.out.trans (Below.drewAny _ 1)).trans (hNb.mono HBW.out.size)
    have hf2 : w2.heap[fb]? = some (oFrm 0 1 (.slice none 0 0) n) := (HBT.block fb hfl).trans HF.out
    have k3 : w2.cell? ⟨fb, 3, none⟩ = some (.slice none 0 0) := by simp [World.cell?, hf2]
    have z3 : w2.frozen? ⟨fb, 3, none⟩ = false := by simp [World.frozen?, hf2]
    have HF2 := Lib.hid hf2
    have HNO := Lib.hid hNown
    have hs2 : w.heap.size ≤ W1.heap.size := HBW.out.size
    have HBT2 := Lib.hid HBT
    clear hf2 hNown hNb HBT
    go_wp2
    first | go_end0 | go_ret
    refine ⟨rfl, _, rowK (S := fun k => k = fb) (rowMono HNO.out hs2) ((KpS.refl _ w2).set (a := ⟨fb, 3, none⟩) _ (.inl rfl)) (fun gb e e2 => by have h9 := (HNO.out.lt gb e).1; have h8 : w.heap.size ≤ W1.drew.heap.size := hs2; omega), ?_, ?_⟩
    · exact heap_setCell_same w2 fb 3 _ _ _ HF2.out
    · exact ((KpS.refl (fun k => k = fb) w).below HBT2.out).set (a := ⟨fb, 3, none⟩) _ (.inl rfl)

/-- the nodes, made now -/
def AllP (w : World) (fb n : Nat) (e : Ending) (w' : World) : Prop :=
  ∃ nv, e = .returned nv ∧ w'.ownsRow w.heap.size 119 7 nv (nds n).length ((nds n).flatMap eNd) ∧ w'.heap[fb]? = some (oFrm 1 0 nv n) ∧ KpS (fun k => k = fb) w w'

set_option maxRecDepth 100000 in
set_option maxHeartbeats 4000000 in
theorem frame_all_first (fb n : Nat) (hn : n ≤ 40000) (w : World) (hf : w.heap[fb]? = some (oFrm 0 0 (.slice none 0 0) n)) :
    Calls Tryz.prog 81 #[.pointer (some ⟨fb, 0, none⟩)] w (AllP w fb n) := by
  have hfl : fb < w.heap.size := (Array.getElem?_eq_some_iff.1 hf).1
  obtain ⟨w0, ew0⟩ : ∃ w0, w0 = w.alloc (.cells #[.pointer (some ⟨fb, 0, none⟩)] 81) := ⟨_, rfl⟩
  have hb0 : Below w.heap.size w w0 := by rw [ew0]; exact (Below.refl _ _).alloc (Nat.le_refl _) _
  have hc0 : w0.cell? ⟨w.heap.size, 0, none⟩ = some (.pointer (some ⟨fb, 0, none⟩)) := by rw [ew0, World.cell?_alloc_at _ _ _ _ rfl]; rfl
  have hsz : w0.heap.size = w.heap.size + 1 := by rw [ew0]; simp
  have hf0 : w0.heap[fb]? = some (oFrm 0 0 (.slice none 0 0) n) := (hb0.block fb hfl).trans hf
  have hf1 : (w0.setCell ⟨fb, 1, none⟩ (.int .i32 1)).heap[fb]? = some (oFrm 0 1 (.slice none 0 0) n) := heap_setCell_same w0 fb 1 _ _ _ hf0
  have hc1 : (w0.setCell ⟨fb, 1, none⟩ (.int .i32 1)).cell? ⟨w.heap.size, 0, none⟩ = some (.pointer (some ⟨fb, 0, none⟩)) := (World.cell?_of_block (heap_setNe (by show fb ≠ w.heap.size; omega))).trans hc0
  have C1 := frame_all1 fb w.heap.size n hn _ hc1 hf1 (by omega)
  have CO := once_first (R := fun w1 => ∃ nv, w1.ownsRow w.heap.size 119 7 nv (nds n).length ((nds n).flatMap eNd) ∧ w1.heap[fb]? = some (oFrm 0 1 nv n) ∧ KpS (fun k => k = fb) w w1 ∧ w1.cell? ⟨w.heap.size, 0, none⟩ = some (.pointer (some ⟨fb, 0, none⟩))) fb 0 (.pointer (some ⟨w.heap.size, 0, none⟩)) w0 (by simp [World.cell?, hf0]) (by simp [World.cell?, hf0]) (by simp [World.frozen?, hf0]) (by simp [World.frozen?, hf0])
    (C1.mono fun e w1 ⟨he, nv, ho, hf2, hk⟩ => ⟨he, ⟨nv, rowMono ho (by simp; omega), hf2, ((KpS.refl _ w).below hb0).trans (((KpS.refl (fun k => k = fb) w0).set (a := ⟨fb, 1, none⟩) _ (.inl rfl)).trans hk), ((cellK hk (b := w.heap.size) (by simp; omega) (by omega)).1 0).trans hc1⟩, by simp [World.cell?, hf2], by simp [World.cell?, hf2], by simp [World.frozen?, hf2], by simp [World.frozen?, hf2]⟩)
  have HCO := Lib.hid CO
  have HFW := Lib.hid hf
  clear C1 CO hf1 hc1 hf0 hb0 hf
  go_enter Tryz.func81, Tryz.ntmps81
  go_wp2_with fail
  rw [← ew0]
  refine HCO.out.mono ?_
  rintro e w2 ⟨rfl, w1, ⟨nv, ho, hf1, hk, hcb⟩, rfl⟩
  have ha := heap_setCell_same w1.drew fb 0 _ _ (.int .u32 1) (show w1.drew.heap[fb]? = _ from hf1)
  have hb := heap_setCell_same _ fb 1 _ _ (.int .i32 0) ha
  have hka : KpS (fun k => k = fb) w ((w1.drew.setCell ⟨fb, 0, none⟩ (.int .u32 1)).setCell ⟨fb, 1, none⟩ (.int .i32 0)) := ((hk.drew).set (a := ⟨fb, 0, none⟩) _ (.inl rfl)).set (a := ⟨fb, 1, none⟩) _ (.inl rfl)
  have hrow : ((w1.drew.setCell ⟨fb, 0, none⟩ (.int .u32 1)).setCell ⟨fb, 1, none⟩ (.int .i32 0)).ownsRow w.heap.size 119 7 nv (nds n).length ((nds n).flatMap eNd) := rowK (S := fun k => k = fb) ho ((((KpS.refl (fun k => k = fb) w1).drew).set (a := ⟨fb, 0, none⟩) _ (.inl rfl)).set (a := ⟨fb, 1, none⟩) _ (.inl rfl)) (fun gb e e2 => by have h9 := (ho.lt gb e).1; omega)
  have hc2 : ((w1.drew.setCell ⟨fb, 0, none⟩ (.int .u32 1)).setCell ⟨fb, 1, none⟩ (.int .i32 0)).cell? ⟨w.heap.size, 0, none⟩ = some (.pointer (some ⟨fb, 0, none⟩)) := by
    exact (World.cell?_of_block (heap_setNe (by show fb ≠ w.heap.size; omega))).trans ((World.cell?_of_block (heap_setNe (by show fb ≠ w.heap.size; omega))).trans hcb)
  have hc3 : ((w1.drew.setCell ⟨fb, 0, none⟩ (.int .u32 1)).setCell ⟨fb, 1, none⟩ (.int .i32 0)).cell? ⟨fb, 3, none⟩ = some nv := by simp [World.cell?, hb]
  have HQ : Hid (AllP w fb n (.returned nv) ((w1.drew.setCell ⟨fb, 0, none⟩ (.int .u32 1)).setCell ⟨fb, 1, none⟩ (.int .i32 0))) := ⟨nv, rfl, hrow, hb, hka⟩
  obtain ⟨na, nc, rfl⟩ := rowV ho
  clear ho hf1 hk hcb ha hb hka hrow HFW HCO
  generalize ((w1.drew.setCell ⟨fb, 0, none⟩ (.int .u32 1)).setCell ⟨fb, 1, none⟩ (.int .i32 0)) = w9 at *
  simp only [Nat.zero_add]
  go_wp2
  go_ret
  exact HQ.out

set_option maxRecDepth 100000 in
/-- the nodes, made already -/
theorem frame_all_done (fb n : Nat) (nv : Value) (hnv : ∃ a c, nv = .slice a (nds n).length c) (w : World) (hf : w.heap[fb]? = some (oFrm 1 0 nv n)) :
    Calls Tryz.prog 81 #[.pointer (some ⟨fb, 0, none⟩)] w fun e w' => e = .returned nv ∧ Below w.heap.size w w' := by
  have hfl : fb < w.heap.size := (Array.getElem?_eq_some_iff.1 hf).1
  obtain ⟨w0, ew0⟩ : ∃ w0, w0 = w.alloc (.cells #[.pointer (some ⟨fb, 0, none⟩)] 81) := ⟨_, rfl⟩
  have hb0 : Below w.heap.size w w0 := by rw [ew0]; exact (Below.refl _ _).alloc (Nat.le_refl _) _
  have hc0 : w0.cell? ⟨w.heap.size, 0, none⟩ = some (.pointer (some ⟨fb, 0, none⟩)) := by rw [ew0, World.cell?_alloc_at _ _ _ _ rfl]; rfl
  have hf0 : w0.heap[fb]? = some (oFrm 1 0 nv n) := (hb0.block fb hfl).trans hf
  have CO := fun fv => once_done ⟨fb, 0, none⟩ fv w0 (by simp [World.cell?, hf0])
  have HCO := Lib.hid CO
  have c3 : w0.cell? ⟨fb, 3, none⟩ = some nv := by simp [World.cell?, hf0]
  have HB := Lib.hid hb0
  obtain ⟨na, nc, rfl⟩ := hnv
  clear CO hf0 hb0 hf
  go_enter Tryz.func81, Tryz.ntmps81
  go_wp2_with fail
  rw [← ew0]
  clear ew0
  refine (HCO.out _).mono ?_
  rintro e w2 ⟨rfl, rfl⟩
  go_wp2
  go_ret
  exact ⟨rfl, HB.out⟩

set_option maxRecDepth 100000 in
theorem frame_none (fb : Nat) (w : World) (hf : w.cell? ⟨fb, 5, none⟩ = some (.bool true)) :
    Calls Tryz.prog 80 #[.pointer (some ⟨fb, 0, none⟩)] w fun e w' => e = .returned (.bool false) ∧ w' = w := by
  go_enter Tryz.func80, Tryz.ntmps80
  go_wp2
  go_ret
  exact ⟨rfl, rfl⟩

set_option maxRecDepth 100000 in
theorem frame_leaves (fb n : Nat) (w : World) (h5 : w.cell? ⟨fb, 5, none⟩ = some (.bool true)) (h4 : w.cell? ⟨fb, 4, none⟩ = some (.int .i64 n)) :
    Calls Tryz.prog 86 #[.pointer (some ⟨fb, 0, none⟩)] w fun e w' => e = .returned (.int .i64 n) ∧ w' = w := by
  have CN := frame_none fb w h5
  go_enter Tryz.func86, Tryz.ntmps86
  go_wp2_with (go_at_call 80; refine CN.mono ?_; rintro e w' ⟨rfl, rfl⟩)
  go_ret
  exact ⟨rfl, rfl⟩

set_option maxRecDepth 100000 in
/-- the root's place -/
theorem frame_root (fb n : Nat) (h0 : 0 < n) (hn : n ≤ 100000) (w : World) (h5 : w.cell? ⟨fb, 5, none⟩ = some (.bool true)) (h4 : w.cell? ⟨fb, 4, none⟩ = some (.int .i64 n)) :
    Calls Tryz.prog 51 #[.pointer (some ⟨fb, 0, none⟩)] w fun e w' => e = .returned (.int .i64 ((2 * n - 2 : Nat) : Int)) ∧ w' = w := by
  have CN := frame_leaves fb n w h5 h4
  have d0 : ((n : Int) == 0) = false := by simp; omega
  have d1 : (n == 0) = false := by simp; omega
  have d2 : decide (n = 0) = false := by simp; omega
  have h2n : (2 : Int) * (n : Int) - 2 = ((2 * n - 2 : Nat) : Int) := by omega
  generalize ((2 * n - 2 : Nat) : Int) = r at *
  go_enter Tryz.func51, Tryz.ntmps51
  go_wp2_with (go_at_call 86; refine CN.mono ?_; rintro e w' ⟨rfl, rfl⟩)
  go_ret
  exact ⟨rfl, rfl⟩

set_option maxRecDepth 100000 in
set_option maxHeartbeats 1000000 in
/-- a copy of the nodes, which are made now -/
theorem frame_nodes_first (fb n : Nat) (hn : n ≤ 40000) (w : World) (hf : w.heap[fb]? = some (oFrm 0 0 (.slice none 0 0) n)) :
    Calls Tryz.prog 43 #[.pointer (some ⟨fb, 0, none⟩)] w fun e w' => ∃ nv v, e = .returned v ∧ w'.ownsRow w.heap.size 119 7 nv (nds n).length ((nds n).flatMap eNd) ∧ w'.ownsRow w.heap.size 119 7 v (nds n).length ((nds n).flatMap eNd) ∧ w'.heap[fb]? = some (oFrm 1 0 nv n) ∧ KpS (fun k => k = fb) w w' := by
  have h5 : w.cell? ⟨fb, 5, none⟩ = some (.bool true) := by simp [World.cell?, hf]
  have CN := frame_none fb w h5
  have hfl : fb < w.heap.size := (Array.getElem?_eq_some_iff.1 hf).1
  have hf1 : (w.alloc (.cells #[] 119)).heap[fb]? = some (oFrm 0 0 (.slice none 0 0) n) := (Below.heap_alloc _ _ _ hfl).trans hf
  have CA := Lib.hid (frame_all_first fb n hn _ hf1)
  have hown := World.ownsRow_made (e := 119) (size := 7) w #[] 0 (Nat.le_refl _) (Nat.zero_le _) rfl
  have HO := Lib.hid hown
  clear hf hf1 hown
  go_enter Tryz.func43, Tryz.ntmps43
  go_wp2_with (go_at_call 80; refine CN.mono ?_; rintro e w' ⟨rfl, rfl⟩)
  go_wp2_with fail
  refine CA.out.mono ?_
  rintro e w2 ⟨nv, rfl, ho, hf2, hk⟩
  have hro := rowK (S := fun k => k = fb) HO.out hk (fun gb e e2 => by have e3 := ownB e; omega)
  have hoL := ho.lt
  obtain ⟨na, nc, rfl, -, -, hrd⟩ := RdK.of_owns eNd_len (by decide) ho
  have hl : (nds n).length ≤ 100000 := by rw [nds_len]; omega
  generalize hD : nds n = D at *
  have HD := Lib.hid hD
  clear hD
  have HHO := Lib.hid ho
  have HF2 := Lib.hid hf2
  have HK := Lib.hid hk
  have hk0 : KpS (fun k => k = fb) w' w2 := ((KpS.refl _ w').alloc _).trans hk
  have HK0 := Lib.hid hk0
  have hsz := hk.size
  simp at hsz
  have HLT : Hid (∀ b, (Value.slice na D.length nc).ownBlock = some b → (w'.alloc (.cells #[] 119)).heap.size ≤ b ∧ b < w2.heap.size) := fun b e => hoL b e
  clear ho hf2 hk hk0 hoL CA CN
  go_wp2_with (at_builtin; refine wp_appendK elNd eNd_len eNd_one w'.heap.size hro hrd rfl _ _ rfl rfl nc rfl (by unfold maxLen; omega) (by omega) (by omega) ?_; intro v' w3 hown' hg)
  go_ret
  rw [Nat.zero_add, List.nil_append] at hown'
  have hg2 : KpS (fun k => k = w'.heap.size) w2 w3 := (KpS.refl _ w2).grown hg (fun k e => .inl (by injection e with e; exact e.symm))
  have hne : ∀ gb, (Value.slice na D.length nc).ownBlock = some gb → gb ≠ w'.heap.size := fun gb e => by have := (HLT.out gb e).1; simp at this; omega
  have hD := HD.out
  subst hD
  refine ⟨_, v', rfl, rowMono (rowK (S := fun k => k = w'.heap.size) HHO.out hg2 hne) (by simp), hown', (hg2.block fb (by omega) (by omega)).trans HF2.out, ?_⟩
  · exact (((HK0.out.mono (fun k h => .inl h)).trans (hg2.mono (fun k h => .inr (by omega))))).strip

end Go.Proofs.YtggfdlanobndjaaGreat

/- frame.Path: from the root to a leaf. -/
namespace Go.Proofs.YtggfdlanobndjaaGreat
open Go.RowKit Go.Sort Go.Shelf Go.Lib Go.Maps
set_option linter.unusedSimpArgs false
set_option linter.unusedVariables false

/-- a node's cells -/
theorem nd_cells {w : World} {g off : Nat} {N : List Nd} {i : Nat} {d : Nd} (h : RdK eNd 7 w (some ⟨g, off, none⟩) N) (hi : N[i]? = some d) :
    g < w.heap.size ∧ w.cell? ⟨g, off + i * 7, none⟩ = some (.int .u8 d.kind) ∧ w.cell? ⟨g, off + i * 7 + 1, none⟩ = some (.int .i64 d.l) ∧ w.cell? ⟨g, off + i * 7 + 2, none⟩ = some (.int .i64 d.r) ∧ w.cell? ⟨g, off + i * 7 + 3, none⟩ = some (.int .i64 d.fr) ∧ w.cell? ⟨g, off + i * 7 + 4, none⟩ = some (.int .i64 d.til) ∧ w.cell? ⟨g, off + i * 7 + 6, none⟩ = some (.int .i64 d.item) := by
  obtain ⟨hl, hd⟩ := List.getElem?_eq_some_iff.1 hi
  rcases h with h | ⟨b, o, e, hb, hc⟩
  · subst h; simp at hl
  · cases e
    have c := hc i hl
    rw [hd] at c
    exact ⟨hb, c 0 (by omega), c 1 (by omega), c 2 (by omega), c 3 (by omega), c 4 (by omega), c 6 (by omega)⟩

theorem At_len {N : List Nd} {t : FT} {s : Nat} (h : FT.At N t s) : t.root s < N.length := h.lt

/-- the frame of n leaves, made -/
structure FrmAt (w : World) (base fb n : Nat) (nv : Value) : Prop where
  blk : w.heap[fb]? = some (oFrm 1 0 nv n)
  row : w.ownsRow base 119 7 nv (nds n).length ((nds n).flatMap eNd)

theorem FrmAt.same {w w' : World} {base fb n : Nat} {nv : Value} (h : FrmAt w base fb n nv) (he : ∀ b, b = fb ∨ nv.ownBlock = some b → w'.heap[b]? = w.heap[b]?) : FrmAt w' base fb n nv :=
  ⟨(he fb (.inl rfl)).trans h.blk, owns_sameH h.row fun gb e => he gb (.inr e)⟩

theorem nds_at (n : Nat) (h : 0 < n) : FT.At (nds n) (mkT 0 n) 0 := ⟨[], [], by unfold nds; rw [if_neg (by omega)]; simp, rfl⟩

theorem owns_lit (w : World) (base : Nat) (xs : List Value) (e : TypeId) (hb : base ≤ w.heap.size) (hm : xs.length ≤ maxLen) : (w.alloc (.cells xs.toArray e)).ownsRow base e 1 (.slice (some ⟨w.heap.size, 0, none⟩) xs.length xs.length) xs.length xs :=
  ⟨by simp, .inr ⟨w.heap.size, xs.length, xs.toArray, rfl, hb, World.alloc_heap_new w _, Nat.le_refl _, hm, by simp, by simp⟩⟩

def PathP (w : World) (n x : Nat) (e : Ending) (w' : World) : Prop :=
  ∃ v, e = .returned (.tuple #[v, .int .i64 0]) ∧ w'.ownsRow w.heap.size 3 1 v ((mkT 0 n).path 0 x).length (((mkT 0 n).path 0 x).map fun i => Value.int .i64 (i : Nat)) ∧ Below w.heap.size w w'

set_option maxRecDepth 100000 in
set_option maxHeartbeats 4000000 in
theorem frame_path (base fb n x : Nat) (nv : Value) (hn : n ≤ 40000) (hx : x < n) (w : World) (h : FrmAt w base fb n nv) :
    Calls Tryz.prog 54 #[.pointer (some ⟨fb, 0, none⟩), .int .i64 x] w (PathP w n x) := by
  have hfl : fb < w.heap.size := (Array.getElem?_eq_some_iff.1 h.blk).1
  have hb := h.blk
  have h5 : w.cell? ⟨fb, 5, none⟩ = some (.bool true) := by simp [World.cell?, hb]
  have h4 : w.cell? ⟨fb, 4, none⟩ = some (.int .i64 n) := by simp [World.cell?, hb]
  have CN := frame_none fb w h5
  have hlen := nds_len n
  obtain ⟨na, nc, rfl, -, -, hrd⟩ := RdK.of_owns eNd_len (by decide) h.row
  have hna : ∃ g off, na = some ⟨g, off, none⟩ := by
    rcases hrd with h9 | ⟨g, off, e, _⟩
    · rw [h9] at hlen; simp at hlen; omega
    · exact ⟨g, off, e⟩
  obtain ⟨g, off, rfl⟩ := hna
  have CA := frame_all_done fb n _ ⟨_, _, rfl⟩ w hb
  have CR := Lib.hid (fun W (hb : Below w.heap.size w W) => frame_root fb n (by omega) (by omega) W ((hb.cell (p := ⟨fb, 5, none⟩) hfl).trans h5) ((hb.cell (p := ⟨fb, 4, none⟩) hfl).trans h4))
  have hT := mkT_spec 0 n (by omega)
  have hS := mkT_size 0 n (by omega)
  have HAT := Lib.hid (nds_at n (by omega))
  have HRD := Lib.hid hrd
  have HT : Hid ((mkT 0 n).wf ∧ (mkT 0 n).lo ≤ x ∧ x < (mkT 0 n).hi ∧ (mkT 0 n).root 0 = 2 * n - 2) := ⟨hT.1, by omega, by omega, by unfold FT.root; omega⟩
  have d1 : decide ((x : Int) < 0) = false := by simp
  have d2 : decide ((x : Int) ≥ (n : Int)) = false := by simp; omega
  have d3 : decide ((n : Int) ≤ (x : Int)) = false := by simp; omega
  have d4 : decide (n ≤ x) = false := by simp; omega
  have hLN : (nds n).length ≤ 100000 := by omega
  generalize hD : nds n = D at *
  have HD := Lib.hid hD
  clear hD hb h hrd hT hS hlen
  go_enter Tryz.func54, Tryz.ntmps54
  go_wp2_with fail
  with_reducible refine CN.mono ?_
  rintro e w' ⟨rfl, ew⟩
  subst w'
  go_wp2_with fail
  with_reducible refine CA.mono ?_
  rintro e w1 ⟨rfl, hb1⟩
  go_wp2_with fail
  refine (CR.out w1 hb1).mono ?_
  rintro e w2 ⟨rfl, ew⟩
  subst ew
  go_wp2_with fail
  have hown0 := owns_lit w2 w.heap.size [.int .i64 ((2 * n - 2 : Nat) : Int)] 3 hb1.size (by unfold maxLen; simp)
  simp only [List.length_cons, List.length_nil, Nat.zero_add] at hown0
  go_loopg [7, 8] ((mkT 0 n).ht) (fun kx s7 s8 wr => ∃ (t : FT) (s : Nat) (pre : List Nat), s7 = .int .i64 (t.root s : Nat) ∧ t.ht ≤ kx ∧ Below w.heap.size w wr ∧ Hid (FT.At D t s) ∧ Hid ((mkT 0 n).path 0 x = pre ++ t.path s x) ∧ Hid (t.wf ∧ t.lo ≤ x ∧ x < t.hi) ∧
    Hid (wr.ownsRow w.heap.size 3 1 s8 (pre.length + 1) ((pre ++ [t.root s]).map fun i => Value.int .i64 (i : Nat))))
  case atStart => exact ⟨mkT 0 n, 0, [], by rw [HT.out.2.2.2], Nat.le_refl _, (hb1.trans ((Below.refl _ w2).alloc hb1.size _)), HAT, rfl, ⟨HT.out.1, HT.out.2.1, HT.out.2.2.1⟩, by rw [HT.out.2.2.2]; exact hown0⟩
  case round =>
    obtain ⟨t, s, pre, rfl, hht, hbw, HA, HPT, HW, HO⟩ := hrel
    obtain ⟨hg, c0, c1, c2, c3, c4, c6⟩ := nd_cells (HRD.out.below hbw) HA.out.get
    have hlt := HA.out.lt
    have hpl : pre.length + 1 ≤ n + 1 := by
      have h1 := FT.path_len (mkT 0 n) 0 x
      have h2 := mkT_ht 0 n n (Nat.le_of_lt (Nat.lt_two_pow_self))
      have h3 : 0 < (t.path s x).length := by obtain ⟨P, hP⟩ := FT.path_head t s x; rw [hP]; simp
      have h4 := HPT.out
      rw [h4, List.length_append] at h1
      omega
    have hLN2 : D.length ≤ 100000 := hLN
    cases t with
    | leaf q =>
      simp only [FT.top] at c0 c1 c2 c3 c4 c6
      have HR : Hid (pre.length + 1 = ((mkT 0 n).path 0 x).length ∧ pre ++ [(FT.leaf q).root s] = (mkT 0 n).path 0 x) := by
        show _ ∧ _
        rw [HPT.out]
        simp [FT.path, FT.root, FT.size]
      generalize (FT.leaf q).root s = k at *
      go_wp2
      go_ret2
      have h1 := HO.out
      rw [HR.out.1, HR.out.2] at h1
      exact ⟨_, rfl, h1, hbw⟩
    | node l r =>
      simp only [FT.top] at c0 c1 c2 c3 c4 c6
      have e1 : ((s + l.size : Nat) : Int) - 1 = ((l.root s : Nat) : Int) := by unfold FT.root; have := l.size_pos; omega
      have e2 : ((s + l.size + r.size : Nat) : Int) - 1 = ((r.root (s + l.size) : Nat) : Int) := by unfold FT.root; have := r.size_pos; omega
      rw [e1] at c1
      rw [e2] at c2
      clear e1 e2 c3 c4 c6
      obtain ⟨-, b0, b1, b2, b3, b4, b6⟩ := nd_cells (HRD.out.below hbw) HA.out.left.get
      rw [FT.top_to] at b4
      clear b0 b1 b2 b3 b6
      have hll := HA.out.left.lt
      have hrl := HA.out.right.lt
      have hhl : (FT.node l r).ht = max l.ht r.ht + 1 := rfl
      have HP2 : Hid ((mkT 0 n).path 0 x = (pre ++ [(FT.node l r).root s]) ++ (if x < l.hi then l.path s x else r.path (s + l.size) x)) := by
        show _ = _
        rw [HPT.out, List.append_assoc]; rfl
      have HAl := Lib.hid HA.out.left
      have HAr := Lib.hid HA.out.right
      have HWW := Lib.hid HW.out
      have HO' := HO.out
      generalize hkk : (FT.node l r).root s = k at *
      have hpl2 : (pre ++ [k]).length = pre.length + 1 := by simp
      obtain ⟨kl, hkl⟩ : ∃ kl, kl = l.root s := ⟨_, rfl⟩
      obtain ⟨kr, hkr⟩ : ∃ kr, kr = r.root (s + l.size) := ⟨_, rfl⟩
      rw [← hkl] at c1 b4 hll
      rw [← hkr] at c2 hrl
      have HK : Hid (kl = l.root s ∧ kr = r.root (s + l.size)) := ⟨hkl, hkr⟩
      obtain ⟨m, hm⟩ : ∃ m, m = l.hi := ⟨_, rfl⟩
      rw [← hm] at b4
      have HM : Hid (m = l.hi) := hm
      clear hkl hkr hm hkk
      by_cases hxl : x < m
      · have d5 : decide ((x : Int) < (m : Int)) = true := by simpa using hxl
        have d6 : decide (x < m) = true := by simpa using hxl
        go_wp2_with (at_builtin; refine wp_append1 elInt w.heap.size HO' [.int .i64 kl] rfl (by simp [Value.oneCell']) rfl _ _ rfl rfl _ rfl (by unfold maxLen; omega) (by omega) hbw.size ?_; intro v' w3 hown' hg)
        go_roundg l.ht
        case measure => omega
        case rel =>
          have hl := HWW.out
          refine ⟨l, s, pre ++ [k], by rw [← HK.out.1], Nat.le_refl _, below_grown hbw HO' hg hbw.size (Nat.le_refl _), HAl, ?_, ?_, ?_⟩
          · show _ = _
            rw [HP2.out, ← HM.out, if_pos hxl]
          · have e1 := HM.out
            obtain ⟨⟨q1, q2, q3⟩, q4, q5⟩ := hl
            exact ⟨q1, q4, by omega⟩
          · rw [hpl2, List.map_append, ← HK.out.1]
            exact hown'
      · have d5 : decide ((x : Int) < (m : Int)) = false := by simpa using hxl
        have d6 : decide (x < m) = false := by simpa using hxl
        go_wp2_with (at_builtin; refine wp_append1 elInt w.heap.size HO' [.int .i64 kr] rfl (by simp [Value.oneCell']) rfl _ _ rfl rfl _ rfl (by unfold maxLen; omega) (by omega) hbw.size ?_; intro v' w3 hown' hg)
        go_roundg r.ht
        case measure => omega
        case rel =>
          have hl := HWW.out
          refine ⟨r, s + l.size, pre ++ [k], by rw [← HK.out.2], Nat.le_refl _, below_grown hbw HO' hg hbw.size (Nat.le_refl _), HAr, ?_, ?_, ?_⟩
          · show _ = _
            rw [HP2.out, ← HM.out, if_neg hxl]
          · have e1 := HM.out
            obtain ⟨⟨q1, q2, q3⟩, q4, q5⟩ := hl
            exact ⟨q2, by omega, q5⟩
          · rw [hpl2, List.map_append, ← HK.out.2]
            exact hown'

end Go.Proofs.YtggfdlanobndjaaGreat

/- What the closures of Report and Count do that are told of lists. -/
namespace Go.Proofs.YtggfdlanobndjaaGreat
open Go.RowKit Go.Sort Go.Shelf Go.Lib Go.Maps
attribute [local irreducible] wpQuiet
attribute [local go_sem] Oper.still1
set_option linter.unusedSimpArgs false
set_option linter.unusedVariables false

section
variable {P : Program} {ops : Array Oper} {o : Oper} {a : Act} {K : Act → World → Prop} {Q : Exit → Act → World → Prop} {E0 : Prop}
/-- reslicing inside a region that draws -/
theorem step_sliceK {α : Type} {enc : α → List Value} {sz : Nat} {t e : TypeId} {bytes : Nat} (E : ElemOK P t e sz bytes) {W : World} {ad : Option Addr} {l : List α} {c : Nat} (hl : RdK enc sz W ad l) (hc : l.length ≤ c) (lo hi : Nat) (h1 : lo ≤ hi) (h2 : hi ≤ l.length)
    (hgd : o.guard = none) (x : Operand) (lw hg : Operand) (ho : o.op = .slice t x (some lw) (some hg) none) (hx : a.eval x = .slice ad l.length c)
    (hlow : a.eval lw = .int .i64 lo) (hhigh : a.eval hg = .int .i64 hi)
    (h : ∀ ad', RdK enc sz W ad' ((l.take hi).drop lo) → K (a.put o.dst (.slice ad' (hi - lo) (c - lo))) W) :
    if Region.wanted o (yielded ops a.tmps) = true then Oper.wp P o a W K Q else E0 := by
  have hw : Region.wanted o (yielded ops a.tmps) = true := by simp [Region.wanted, hgd]
  rw [if_pos hw]
  obtain ⟨ht, ⟨i, z, hi', hz, hsize, hby, hzs⟩, hsz⟩ := E
  have hk := h _ (rdk_cut hl hc lo hi h2)
  have hu : ∀ W', (underlying t).run P W' = .ok (.slice e) W' := fun W' => run_underlying ht W'
  have hs : ∀ W', (sizeOf e).run P W' = .ok sz W' := fun W' => by simp [sizeOf, typeInfo, hi', hsize]
  have hhc : hi ≤ c := by omega
  unfold Oper.wp execOp
  simp [ho, hx, hlow, hhigh, Instr.sliceAt, Instr.slice, Instr.sliceBounds, Instr.sliceBound, hu, hs, asIntOf, h1, hhc]
  exact hk
end

/-- a list of numbers as one of structs with one cell -/
theorem Rd.toK {α : Type} {enc : α → Value} {w : World} {a : Option Addr} {l : List α} (h : Rd enc w a l) : RdK (fun x => [enc x]) 1 w a l := by
  rcases h with h | ⟨b, off, e, hb, hc⟩
  · exact .inl h
  · exact .inr ⟨b, off, e, hb, fun i hi j hj => by
      obtain rfl : j = 0 := by omega
      rw [Nat.mul_one, Nat.add_zero]
      exact hc i hi⟩

def CntS (B nb : Nat) (w0 : World) (W : World) (acc : List Nat) (D : Nat → Prop) : Prop :=
  Below B w0 W ∧ W.heap[nb]? = some (.cells #[.int .i64 acc.length] 3 (0, 0)) ∧ D = fun k => k = nb

theorem ent_rep : ∀ args w, (callFunc 71 args).run Tryz.prog w = .ok (.enter 71 args) w := enters_of Tryz.func71 (by kernel_rfl) rfl

def RepS (B ob : Nat) (nm : Nat → Int) (w0 : World) (W : World) (acc : List Nat) (D : Nat → Prop) : Prop :=
  Below B w0 W ∧ ∃ v, W.heap[ob]? = some (.cells #[v] 40 (0, 0)) ∧ W.ownsRow B 32 1 v acc.length ((acc.map nm).map (Value.int .u32)) ∧ D = fun k => k = ob ∨ v.ownBlock = some k

set_option maxRecDepth 100000 in
theorem rep_told (N : List Nd) (nm : Nat → Int) (YS : List Nat) (LN LL : Nat → Value) (tb B ob : Nat) (w0 : World) (FL : List Nat) (hFL : FL.length ≤ 1000000) (hob : B ≤ ob) (hB : B = w0.heap.size) (hA : DnAt w0 tb N nm YS LN LL) (hYS : YS.length ≤ 1000000) :
    Told 71 #[.pointer (some ⟨ob, 0, none⟩)] N YS LN LL B w0 FL (RepS B ob nm w0) where
  enters := ent_rep
  base := fun W acc D h => h.1
  lt := fun W acc D h k hk => by
    obtain ⟨h1, v, h2, h3, rfl⟩ := h
    rcases hk with rfl | hk
    · exact ⟨hob, (Array.getElem?_eq_some_iff.1 h2).1⟩
    · exact h3.lt k hk
  stable := fun W W' acc D h hb => by
    obtain ⟨h1, v, h2, h3, rfl⟩ := h
    exact ⟨h1.trans (hb.mono (hB ▸ h1.size)), v, (hb.block ob (Array.getElem?_eq_some_iff.1 h2).1).trans h2, ownsRow_below h3 hb, rfl⟩
  told := fun W acc D t s a b h ha hab hbl hF => by
    obtain ⟨h1, v, h2, h3, rfl⟩ := h
    have hl : (acc ++ ((nl YS t).take b).drop a).length = acc.length + (b - a) := by rw [List.length_append, List.length_drop, List.length_take]; omega
    have hl2 := hF.length_le
    rw [hl] at hl2
    obtain ⟨an, cn, eN, hcn, rn⟩ := hA.nam t s ha
    have rn1 := rn.below h1 (Nat.le_of_eq hB.symm)
    rw [eN]
    have hnl : (nl YS t).length ≤ YS.length := List.length_filter_le _ _
    generalize hnL : nl YS t = L at *
    generalize LL (t.root s) = llv at *
    obtain ⟨va, vc, rfl⟩ := rowV h3
    have hol : ob < W.heap.size := (Array.getElem?_eq_some_iff.1 h2).1
    obtain ⟨w1, ew1⟩ : ∃ w1, w1 = W.alloc (.cells #[.slice an L.length cn, llv] 112) := ⟨_, rfl⟩
    have hb1 : Below W.heap.size W w1 := by rw [ew1]; exact (Below.refl _ _).alloc (Nat.le_refl _) _
    have hxb : w1.heap[W.heap.size]? = some (.cells #[.slice an L.length cn, llv] 112 (0, 0)) := by rw [ew1]; exact lit0 W _
    have ho1 := (hb1.block ob hol).trans h2
    have c0 : w1.cell? ⟨ob, 0, none⟩ = some (.slice va acc.length vc) := by simp [World.cell?, ho1]
    have z0 : w1.frozen? ⟨ob, 0, none⟩ = false := by simp [World.frozen?, ho1]
    have c1 : w1.cell? ⟨W.heap.size, 0, none⟩ = some (.slice an L.length cn) := by simp [World.cell?, hxb]
    have g0 := cell_belowW c0
    have g1 := cell_belowW c1
    have HOW : Hid (w1.drew.ownsRow B 32 1 (.slice va acc.length vc) acc.length ((acc.map nm).map (Value.int .u32))) := ownsRow_below h3 hb1.drew
    have HRN : Hid (Rd (.int .u32) w1.drew an (L.map nm)) := rn1.below hb1.drew
    have HOB := Lib.hid ho1
    have HB1 := Lib.hid hb1
    have H1 := Lib.hid h1
    have HL := Lib.hid hl
    have hBW : B ≤ W.heap.size := by rw [hB]; exact h1.size
    have hw1 : W.heap.size < w1.heap.size := by rw [ew1]; simp
    have hvo := h3.lt
    have HVO := Lib.hid hvo
    have hvob : ∀ gb, (Value.slice va acc.length vc).ownBlock = some gb → ob ≠ gb := row_ne h3 h2 (by decide)
    have HVOB := Lib.hid hvob
    clear hl hF h1 h2 h3 rn rn1 eN hxb ho1 hb1 hA ha hvo hvob
    have hlm : (L.map nm).length = L.length := by simp
    show Calls Tryz.prog 71 #[.agg #[.slice an L.length cn, llv], .int .i64 a, .int .i64 b, .pointer (some ⟨ob, 0, none⟩)] W _
    go_enter Tryz.func71, Tryz.ntmps71
    go_wp2_with fail
    rw [← ew1]
    clear ew1
    refine wp_region_head (fun W => ∃ p : BelowW w1, W = p.W) [6, 7] [(0, true), (1, false), (2, true), (3, false), (4, false)] (by kernel_rfl) (by kernel_rfl) (fun _ _ d _ _ h => by cases d <;> exact h) ⟨⟨_, (Below.refl _ _).drew⟩, rfl⟩ 3 rfl (by kernel_rfl) ?_
    simp only [pickB, List.filterMap_cons, List.filterMap_nil, List.getElem?_toArray, List.getElem?_cons_succ, List.getElem?_cons_zero, Option.map_some]
    repeat (refine wpHd_step (fun K hK => ?_); go_simp; first | (refine hK _ ?_; clear hK K) | (apply Exists.intro; refine ⟨fun _ => ?_, hK _ ?_⟩; rfl; clear hK K))
    refine wpHd_nil ?_
    refine wpAnyT_ready [5] (by kernel_rfl) (by simp) ?_
    refine AllReadyT.cons rfl (fun K hK => ?_) AllReadyT.nil
    refine step_sliceK (c := cn) elU32 HRN.out.toK (by simp; omega) a b hab (by simp; omega) rfl (.tmp 9) (.tmp 10) (.tmp 11) rfl (by rw [hlm]; rfl) rfl rfl ?_
    intro ad' hrs
    refine hK _ _ (fun h _ => h) ?_
    clear hK K
    refine wpAnyT_line [6, 7] _ _ _ (by kernel_rfl) ?_
    simp only [pick, List.filterMap_cons, List.filterMap_nil, List.getElem?_toArray, List.getElem?_cons_succ, List.getElem?_cons_zero]
    have hsl : (((L.map nm).take b).drop a).length = b - a := by simp; omega
    refine wp_appendKB elU32 (fun _ => rfl) (fun x u hu => by simp at hu; subst hu; rfl) B HOW.out hrs rfl (.tmp 7) (.tmp 12) rfl rfl (cn - a) (by rw [hsl]; rfl) (by rw [hsl]; unfold maxLen; omega) (by rw [hsl]; omega) (by show B ≤ w1.heap.size; omega) ?_
    intro v' w2 hv2 hg2 hbk2
    rw [hsl] at hv2
    have KG : KpS (fun k => (Value.slice va acc.length vc).ownBlock = some k) w1.drew w2 := (KpS.refl _ _).grown hg2 (fun k hk => .inl hk)
    have hwo : ob < w1.heap.size := Nat.lt_trans hol hw1
    have hgne : ¬ (Value.slice va acc.length vc).ownBlock = some ob := fun h => HVOB.out ob h rfl
    have hob2 : w2.heap[ob]? = some (.cells #[.slice va acc.length vc] 40 (0, 0)) := (KG.block ob hwo hgne).trans HOB.out
    have c2 : w2.cell? ⟨ob, 0, none⟩ = some (.slice va acc.length vc) := by simp [World.cell?, hob2]
    have z2 : w2.frozen? ⟨ob, 0, none⟩ = false := by simp [World.frozen?, hob2]
    have HOB2 := Lib.hid hob2
    have HV2 := Lib.hid hv2
    have HKG : Hid (KpS (fun k => k = ob ∨ (Value.slice va acc.length vc).ownBlock = some k) W w2) := (((KpS.refl _ W).below HB1.out).drew).trans (KG.mono fun k h => .inr h)
    have HBK := Lib.hid hbk2
    obtain ⟨va', vc', rfl⟩ := rowV hv2
    clear hob2 hv2 KG hbk2 hg2 hrs c0 z0 c1 g0 g1
    go_wp2
    first | go_end0 | go_ret
    have KF := (HKG.out.set (a := ⟨ob, 0, none⟩) (.slice va' (acc.length + (b - a)) vc') (.inl (.inl rfl)))
    have hnb' : ∀ gb, (Value.slice va' (acc.length + (b - a)) vc').ownBlock = some gb → gb ≠ ob := fun gb e => by
      rcases HBK.out with h9 | h9
      · exact fun e9 => HVOB.out gb (h9 ▸ e) e9.symm
      · rw [h9] at e
        injection e with e
        intro e9
        have : w1.drew.heap.size = ob := by rw [e, e9]
        have h8 : w1.heap.size = ob := this
        omega
    refine ⟨rfl, _, ⟨H1.out.trans (KF.toBelow (Nat.le_trans (Nat.le_of_eq hB) H1.out.size) (fun k h => ?_)), .slice va' (acc.length + (b - a)) vc', heap_setCell_same _ ob 0 _ _ _ HOB2.out, ?_, rfl⟩, fun k h => ?_, KF⟩
    · rcases h with rfl | h
      · exact hob
      · exact (HVO.out k h).1
    · have h9 := rowK (S := fun k => k = ob) HV2.out ((KpS.refl (fun k => k = ob) w2).set (a := ⟨ob, 0, none⟩) (.slice va' (acc.length + (b - a)) vc') (.inl rfl)) hnb'
      have e1 : (acc ++ (L.take b).drop a).length = acc.length + (b - a) := HL.out
      rw [e1]
      have e2 : (((acc ++ (L.take b).drop a).map nm).map (Value.int .u32)) = ((acc.map nm).map (Value.int .u32)) ++ (((L.map nm).take b).drop a).flatMap (fun x => [Value.int .u32 x]) := by
        rw [List.map_append, List.map_append, ← List.map_take, ← List.map_drop]
        congr 1
        induction (((L.take b).drop a).map nm) with
        | nil => rfl
        | cons x l ih => rw [List.map_cons, List.flatMap_cons, ih]; rfl
      rw [e2]
      exact h9
    · rcases h with rfl | h
      · exact .inl (.inl rfl)
      · rcases HBK.out with h9 | h9
        · exact .inl (.inr (h9 ▸ h))
        · rw [h9] at h
          injection h with h
          right
          have h8 : w1.heap.size = k := h
          omega
end Go.Proofs.YtggfdlanobndjaaGreat

/- Package rank: begins, First, Above: what they answer, as bsrch. -/
namespace Go.Proofs.YtggfdlanobndjaaGreat
open Go.RowKit
set_option maxRecDepth 100000 in
set_option maxHeartbeats 400000 in
theorem begins_any (g : Nat) (cb : Array Value) (n : Nat) (p : Nat → Bool) (w : World) (hsz : n < 4611686018427387904) (eg : ∀ args w, (callFunc g args).run Tryz.prog w = .ok (.enter g args) w)
    (hf : ∀ (W : World) (i : Nat), Below w.heap.size w W → i < n → Calls Tryz.prog g (#[.int .i64 i] ++ cb) W fun e w' => e = .returned (.bool (p i)) ∧ Below W.heap.size W w') :
    Calls Tryz.prog 125 #[.int .i64 n, .func (.func g) #[] cb] w fun e w' => e = .returned (.tuple #[.int .i64 (bsrch p n 0 n 0).1, .int .i64 (bsrch p n 0 n 0).2]) ∧ Below w.heap.size w w' := by
  have HF := Lib.hid hf
  clear hf
  generalize hr : bsrch p n 0 n 0 = r
  have HR := Lib.hid hr
  clear hr
  obtain ⟨r1, r2⟩ := r
  go_enter Tryz.func125, Tryz.ntmps125
  go_wp2
  go_loopg [6, 7, 8] n (fun kx s6 s7 s8 wr => ∃ (lo hi k : Nat), s6 = .int .i64 lo ∧ s7 = .int .i64 hi ∧ s8 = .int .i64 k ∧ lo ≤ hi ∧ hi ≤ n ∧ k + (hi - lo) ≤ n ∧ hi - lo ≤ kx ∧ Below w.heap.size w wr ∧
    Hid (bsrch p n lo hi k = (r1, r2)))
  case atStart => exact ⟨0, n, 0, rfl, rfl, rfl, Nat.zero_le _, Nat.le_refl _, by omega, by omega, Below.refl _ _, HR⟩
  case round =>
    obtain ⟨lo, hi, k, rfl, rfl, rfl, hlh, hin, hk, hg, hb, I⟩ := hrel
    by_cases hlt : lo < hi
    · have hc := HF.out wr (lo + (hi - lo) / 2) hb (by omega)
      rw [show ((lo + (hi - lo) / 2 : Nat) : Int) = (lo : Int) + ((hi : Int) - (lo : Int)) / 2 by omega] at hc
      have I2 := I.out
      have I3 : bsrch p n lo hi k = bsrch p (n+1) lo hi k := bsrch_fuel p _ _ _ _ _ (by omega) (by omega)
      rw [I3, bsrch, if_pos hlt] at I2
      cases hp : p (lo + (hi - lo) / 2) <;> rw [hp] at hc I2
      · have HP := Lib.hid I2
        clear hp I2 I3
        go_wp2_with (go_at_fn g; refine hc.mono ?_; rintro e w' ⟨rfl, hb'⟩)
        go_roundg (hi - (lo + (hi - lo) / 2 + 1))
        case measure => omega
        case rel =>
          exact ⟨lo + (hi - lo) / 2 + 1, hi, k + 1, by go_num, rfl, by go_num, by omega, hin, by omega, Nat.le_refl _, hb.trans (hb'.mono hb.size), HP.out⟩
      · have HP := Lib.hid I2
        clear hp I2 I3
        go_wp2_with (go_at_fn g; refine hc.mono ?_; rintro e w' ⟨rfl, hb'⟩)
        go_roundg ((lo + (hi - lo) / 2) - lo)
        case measure => omega
        case rel =>
          exact ⟨lo, lo + (hi - lo) / 2, k + 1, rfl, by go_num, by go_num, by omega, by omega, by omega, Nat.le_refl _, hb.trans (hb'.mono hb.size), HP.out⟩
    · obtain rfl : hi = lo := by omega
      have I2 := I.out
      have I3 : bsrch p n hi hi k = (hi, k) := by cases n <;> simp [bsrch]
      rw [I3] at I2
      cases I2
      clear I3 I HR
      go_wp2
      go_ret2
      exact ⟨rfl, hb⟩

set_option maxHeartbeats 400000 in
theorem clFirst (i : Nat) (bl bx : Nat) (a : Option Addr) (l : List Int) (c : Nat) (x : Int) (W : World) (ha : W.cell? ⟨bl, 0, none⟩ = some (.slice a l.length c)) (hx : W.cell? ⟨bx, 0, none⟩ = some (.int .i64 x))
    (h : Rd (.int .i64) W a l) (hi : i < l.length) :
    Calls Tryz.prog 126 (#[.int .i64 i] ++ #[.pointer (some ⟨bl, 0, none⟩), .pointer (some ⟨bx, 0, none⟩)]) W fun e w' => e = .returned (.bool (decide (x ≤ l.getD i 0))) ∧ Below W.heap.size W w' := by
  obtain ⟨b, off, rfl, hbl, hc⟩ := h.get (by omega)
  have hc1 := hc i hi
  have hg : l.getD i 0 = l[i] := by simp [hi]
  rw [hg]
  clear hg hc
  generalize l[i] = y at *
  have hlt : (i : Int) < (l.length : Int) := by omega
  go_enter Tryz.func126, Tryz.ntmps126
  go_wp2
  go_quiet (fail)
  go_wp2
  go_ret
  exact ⟨ret_bool (by first | rfl | simp), ⟨rfl, rfl, rfl, Nat.le_refl _, fun _ _ => rfl⟩⟩

theorem entersFirst : ∀ args w, (callFunc 126 args).run Tryz.prog w = .ok (.enter 126 args) w := enters_of Tryz.func126 (by kernel_rfl) rfl

set_option maxHeartbeats 400000 in
theorem rFirst (a : Option Addr) (l : List Int) (c : Nat) (x : Int) (w : World) (h : Rd (.int .i64) w a l) (hl : l.length < 4611686018427387904) :
    Calls Tryz.prog 88 #[.slice a l.length c, .int .i64 x] w fun e w' => e = .returned (.tuple #[.int .i64 (rkFirst l x).1, .int .i64 (rkFirst l x).2]) ∧ Below w.heap.size w w' := by
  have H := Lib.hid h; clear h
  unfold rkFirst
  have eg := entersFirst
  have HC : Hid (∀ (W : World) (i : Nat), Below ((w.alloc (.cells #[.slice a l.length c] 87)).alloc (.cells #[.int .i64 x] 2)).heap.size ((w.alloc (.cells #[.slice a l.length c] 87)).alloc (.cells #[.int .i64 x] 2)) W → i < l.length →
      Calls Tryz.prog 126 (#[.int .i64 i] ++ #[.pointer (some ⟨w.heap.size, 0, none⟩), .pointer (some ⟨w.heap.size + 1, 0, none⟩)]) W fun e w' => e = .returned (.bool ((fun i => decide (x ≤ l.getD i 0)) i)) ∧ Below W.heap.size W w') := by
    intro W i hb hi
    have hb1 : Below w.heap.size w W := (((Below.refl _ _).alloc (Nat.le_refl _) _).alloc (by simp) _).trans (hb.mono (by simp; omega))
    refine clFirst i _ _ a l c x W ?_ ?_ (H.out.below hb1) hi
    · rw [hb.cell (by simp; omega)]; simp
    · rw [hb.cell (by simp)]; simp
  generalize (fun i => decide (x ≤ l.getD i 0)) = p at *
  go_enter Tryz.func88, Tryz.ntmps88
  go_wp2_with (go_at_call 125; refine (begins_any _ _ _ p _ hl eg HC.out).mono ?_; rintro e w' ⟨rfl, hb⟩)
  go_ret2
  exact ⟨rfl, (((Below.refl _ _).alloc (Nat.le_refl _) _).alloc (by simp) _).trans (hb.mono (by simp; omega))⟩

set_option maxHeartbeats 400000 in
theorem clAbove (i : Nat) (bl bx : Nat) (a : Option Addr) (l : List Int) (c : Nat) (x : Int) (W : World) (ha : W.cell? ⟨bl, 0, none⟩ = some (.slice a l.length c)) (hx : W.cell? ⟨bx, 0, none⟩ = some (.int .i64 x))
    (h : Rd (.int .i64) W a l) (hi : i < l.length) :
    Calls Tryz.prog 127 (#[.int .i64 i] ++ #[.pointer (some ⟨bl, 0, none⟩), .pointer (some ⟨bx, 0, none⟩)]) W fun e w' => e = .returned (.bool (decide (x < l.getD i 0))) ∧ Below W.heap.size W w' := by
  obtain ⟨b, off, rfl, hbl, hc⟩ := h.get (by omega)
  have hc1 := hc i hi
  have hg : l.getD i 0 = l[i] := by simp [hi]
  rw [hg]
  clear hg hc
  generalize l[i] = y at *
  have hlt : (i : Int) < (l.length : Int) := by omega
  go_enter Tryz.func127, Tryz.ntmps127
  go_wp2
  go_quiet (fail)
  go_wp2
  go_ret
  exact ⟨ret_bool (by first | rfl | simp), ⟨rfl, rfl, rfl, Nat.le_refl _, fun _ _ => rfl⟩⟩

theorem entersAbove : ∀ args w, (callFunc 127 args).run Tryz.prog w = .ok (.enter 127 args) w := enters_of Tryz.func127 (by kernel_rfl) rfl

set_option maxHeartbeats 400000 in
theorem rAbove (a : Option Addr) (l : List Int) (c : Nat) (x : Int) (w : World) (h : Rd (.int .i64) w a l) (hl : l.length < 4611686018427387904) :
    Calls Tryz.prog 89 #[.slice a l.length c, .int .i64 x] w fun e w' => e = .returned (.tuple #[.int .i64 (rkAbove l x).1, .int .i64 (rkAbove l x).2]) ∧ Below w.heap.size w w' := by
  have H := Lib.hid h; clear h
  unfold rkAbove
  have eg := entersAbove
  have HC : Hid (∀ (W : World) (i : Nat), Below ((w.alloc (.cells #[.slice a l.length c] 87)).alloc (.cells #[.int .i64 x] 2)).heap.size ((w.alloc (.cells #[.slice a l.length c] 87)).alloc (.cells #[.int .i64 x] 2)) W → i < l.length →
      Calls Tryz.prog 127 (#[.int .i64 i] ++ #[.pointer (some ⟨w.heap.size, 0, none⟩), .pointer (some ⟨w.heap.size + 1, 0, none⟩)]) W fun e w' => e = .returned (.bool ((fun i => decide (x < l.getD i 0)) i)) ∧ Below W.heap.size W w') := by
    intro W i hb hi
    have hb1 : Below w.heap.size w W := (((Below.refl _ _).alloc (Nat.le_refl _) _).alloc (by simp) _).trans (hb.mono (by simp; omega))
    refine clAbove i _ _ a l c x W ?_ ?_ (H.out.below hb1) hi
    · rw [hb.cell (by simp; omega)]; simp
    · rw [hb.cell (by simp)]; simp
  generalize (fun i => decide (x < l.getD i 0)) = p at *
  go_enter Tryz.func89, Tryz.ntmps89
  go_wp2_with (go_at_call 125; refine (begins_any _ _ _ p _ hl eg HC.out).mono ?_; rintro e w' ⟨rfl, hb⟩)
  go_ret2
  exact ⟨rfl, (((Below.refl _ _).alloc (Nat.le_refl _) _).alloc (by simp) _).trans (hb.mono (by simp; omega))⟩

end Go.Proofs.YtggfdlanobndjaaGreat

/- A cascade as it lies; what it is asked. -/
namespace Go.Proofs.YtggfdlanobndjaaGreat
open Go.RowKit Go.Sort Go.Shelf Go.Lib Go.Maps
attribute [local irreducible] wpQuiet
attribute [local go_sem] Oper.still1
set_option linter.unusedSimpArgs false
set_option linter.unusedVariables false

/-- the values that a cascade's cells hold -/
structure CscV where
  rv : Value
  xv : Value
  gv : Value
  nv : Value
  lv : Value
  yv : Value
  fv : Value
  LN : Nat → Value
  LL : Nat → Value

/-- a cascade as it lies; its blocks lie from lo on, ahead of hi -/
structure CscAt (w : World) (lo hi tb fb : Nat) (R : List Pt) (gone : List Bool) (YS : List Nat) (V : CscV) : Prop where
  blk : w.heap[tb]? = some (.cells #[V.rv, V.xv, V.gv, .pointer (some ⟨fb, 0, none⟩), V.nv, V.lv, V.yv, .int .i64 YS.length] 110 (0, 0))
  tbr : lo ≤ tb ∧ tb < hi ∧ lo ≤ fb ∧ fb < hi ∧ hi ≤ w.heap.size
  row : w.ownsRow lo 34 3 V.rv R.length (R.flatMap ePt)
  xs : w.ownsRow lo 2 1 V.xv R.length ((xsR R).map (Value.int .i64))
  gon : w.ownsRow lo 4 1 V.gv R.length (gone.map Value.bool)
  frm : FrmAt w lo fb R.length V.fv
  nod : w.ownsRow lo 119 7 V.nv (nds R.length).length ((nds R.length).flatMap eNd)
  lst : w.ownsRow lo 112 2 V.lv (nds R.length).length ((List.range (nds R.length).length).flatMap fun k => [V.LN k, V.LL k])
  ys : w.ownsRow lo 2 1 V.yv YS.length ((ysR R YS).map (Value.int .i64))
  nam : ∀ t s, FT.At (nds R.length) t s → w.ownsRow lo 32 1 (V.LN (t.root s)) (nl YS t).length (((nl YS t).map (nmR R)).map (Value.int .u32))
  lef : ∀ l r s, FT.At (nds R.length) (.node l r) s → w.ownsRow lo 3 1 (V.LL ((FT.node l r).root s)) (lf l.hi (nl YS (.node l r))).length ((lf l.hi (nl YS (.node l r))).map (Value.int .i64))
  sli : ∀ k, k < (nds R.length).length → ∃ a m c, V.LL k = .slice a m c
  top : ∀ v, v = V.rv ∨ v = V.xv ∨ v = V.gv ∨ v = V.nv ∨ v = V.lv ∨ v = V.yv ∨ v = V.fv → ∀ g, v.ownBlock = some g → g < hi
  topL : ∀ k, k < (nds R.length).length → (∀ g, (V.LN k).ownBlock = some g → g < hi) ∧ ∀ g, (V.LL k).ownBlock = some g → g < hi
  neX : ∀ g, V.xv.ownBlock = some g → V.yv.ownBlock ≠ some g
  neN : ∀ i k, i < (nds R.length).length → k < (nds R.length).length → i ≠ k → ∀ g, (V.LN i).ownBlock = some g → (V.LN k).ownBlock ≠ some g
  neL : ∀ i k, i < (nds R.length).length → k < (nds R.length).length → i ≠ k → ∀ g, (V.LL i).ownBlock = some g → (V.LL k).ownBlock ≠ some g

/-- what lies elsewhere may change -/
theorem CscAt.kept {S : Nat → Prop} {w w' : World} {lo hi tb fb : Nat} {R : List Pt} {gone : List Bool} {YS : List Nat} {V : CscV} (h : CscAt w lo hi tb fb R gone YS V) (K : KpS S w w') (hS : ∀ k, lo ≤ k → k < hi → ¬ S k) : CscAt w' lo hi tb fb R gone YS V := by
  have ht := h.top
  have hr : ∀ {e : TypeId} {sz : Nat} {v : Value} {n : Nat} {xs : List Value}, w.ownsRow lo e sz v n xs → (∀ g, v.ownBlock = some g → g < hi) → w'.ownsRow lo e sz v n xs := fun hr hv => rowK hr K fun g e => hS g (hr.lt g e).1 (hv g e)
  have hat : ∀ t s, FT.At (nds R.length) t s → t.root s < (nds R.length).length := fun t s ha => ha.lt
  exact ⟨blkK K h.blk (hS tb h.tbr.1 h.tbr.2.1), ⟨h.tbr.1, h.tbr.2.1, h.tbr.2.2.1, h.tbr.2.2.2.1, Nat.le_trans h.tbr.2.2.2.2 K.size⟩,
    hr h.row (ht _ (by simp)), hr h.xs (ht _ (by simp)), hr h.gon (ht _ (by simp)),
    ⟨blkK K h.frm.blk (hS fb h.tbr.2.2.1 h.tbr.2.2.2.1), hr h.frm.row (ht _ (by simp))⟩, hr h.nod (ht _ (by simp)), hr h.lst (ht _ (by simp)), hr h.ys (ht _ (by simp)),
    fun t s ha => hr (h.nam t s ha) (h.topL _ (hat t s ha)).1, fun l r s ha => hr (h.lef l r s ha) (h.topL _ (hat _ s ha)).2, h.sli, h.top, h.topL, h.neX, h.neN, h.neL⟩

theorem CscAt.below {w w' : World} {B lo hi tb fb : Nat} {R : List Pt} {gone : List Bool} {YS : List Nat} {V : CscV} (h : CscAt w lo hi tb fb R gone YS V) (hb : Below B w w') (hB : hi ≤ B) : CscAt w' lo hi tb fb R gone YS V :=
  h.kept (S := fun k => hi ≤ k) ⟨hb.os, hb.tape, hb.output, hb.size, fun k hk hn => hb.block k (by omega)⟩ fun k h1 h2 h3 => by omega

/-- the nodes and lists, for going down -/
theorem CscAt.dn {w : World} {lo hi tb fb : Nat} {R : List Pt} {gone : List Bool} {YS : List Nat} {V : CscV} (h : CscAt w lo hi tb fb R gone YS V) (h0 : 0 < R.length) : DnAt w tb (nds R.length) (nmR R) YS V.LN V.LL := by
  have hb := h.blk
  have hl := nds_len R.length
  have c4 : w.cell? ⟨tb, 4, none⟩ = some V.nv := by simp [World.cell?, hb]
  have c5 : w.cell? ⟨tb, 5, none⟩ = some V.lv := by simp [World.cell?, hb]
  refine ⟨?_, ?_, fun t s ha => ?_, fun l r s ha => ?_, h.sli⟩
  · obtain ⟨g, c, e, _⟩ := ownRow_at h.nod (by omega)
    obtain ⟨a, c', e', -, -, hr⟩ := RdK.of_owns eNd_len (by decide) h.nod
    rw [e] at e'
    injection e' with e1 e2 e3
    rw [← e1] at hr
    exact ⟨g, 0, c, by rw [c4, e], hr⟩
  · obtain ⟨g, c, e, _, hg, _⟩ := ownRow_at h.lst (by omega)
    have hlr : (nds R.length).length = (List.range (nds R.length).length).length := by simp
    obtain ⟨a, c', e', -, -, hr⟩ := RdK.of_owns (enc := fun k => [V.LN k, V.LL k]) (fun _ => rfl) (by decide) h.lst
    rw [e] at e'
    injection e' with e1 e2 e3
    rw [← e1] at hr
    refine ⟨g, c, by rw [c5, e], hg, fun k hk => ?_⟩
    obtain ⟨b, off, e9, hb9, hc⟩ := hr.get (by simp; omega)
    injection e9 with e9
    injection e9 with e8 e7 _
    subst e8 e7
    have q0 := hc k (by simpa using hk) 0 (by omega)
    have q1 := hc k (by simpa using hk) 1 (by omega)
    simp only [List.getElem_range, Nat.zero_add, Nat.add_zero, List.getElem?_cons_zero, List.getElem?_cons_succ] at q0 q1
    exact ⟨q0, q1⟩
  · obtain ⟨a, c, e, -, hc, hr⟩ := Rd.of_owns (h.nam t s ha)
    rw [List.length_map] at e hc
    exact ⟨a, c, e, hc, hr⟩
  · obtain ⟨a, c, e, -, hc, hr⟩ := Rd.of_owns (h.lef l r s ha)
    exact ⟨a, c, e, hr⟩

set_option maxRecDepth 100000 in
theorem casc_none (tb fb : Nat) (w : World) (h3 : w.cell? ⟨tb, 3, none⟩ = some (.pointer (some ⟨fb, 0, none⟩))) :
    Calls Tryz.prog 65 #[.pointer (some ⟨tb, 0, none⟩)] w fun e w' => e = .returned (.bool false) ∧ w' = w := by
  go_enter Tryz.func65, Tryz.ntmps65
  go_wp2
  go_ret
  exact ⟨rfl, rfl⟩

/-- binary search of a sorted row of numbers, by the count of those ahead -/
theorem bsrch_placeR (p : Nat → Bool) (n : Nat) (hp : ∀ i j, i ≤ j → j < n → p i = true → p j = true) : ∀ (f lo hi k : Nat), hi - lo ≤ f → lo ≤ hi → hi ≤ n → (∀ t, t < lo → p t = false) → (∀ t, hi ≤ t → t < n → p t = true) →
    (bsrch p f lo hi k).1 ≤ n ∧ (∀ t, t < (bsrch p f lo hi k).1 → p t = false) ∧ (∀ t, (bsrch p f lo hi k).1 ≤ t → t < n → p t = true) := by
  intro f
  induction f with
  | zero =>
    intro lo hi k h1 h2 h3 h4 h5
    simp only [bsrch]
    obtain rfl : hi = lo := by omega
    exact ⟨h3, h4, h5⟩
  | succ f ih =>
    intro lo hi k h1 h2 h3 h4 h5
    simp only [bsrch]
    by_cases h : lo < hi
    · rw [if_pos h]
      by_cases hm : p (lo + (hi - lo) / 2) = true
      · rw [if_pos hm]
        exact ih _ _ _ (by omega) (by omega) (by omega) h4 (fun t ht htn => hp _ t ht htn hm)
      · rw [if_neg hm]
        refine ih _ _ _ (by omega) (by omega) h3 (fun t ht => ?_) h5
        cases hpt : p t with
        | false => rfl
        | true => exact absurd (hp t _ (by omega) (by omega) hpt) hm
    · rw [if_neg h]
      obtain rfl : hi = lo := by omega
      exact ⟨h3, h4, h5⟩

theorem count_cut {α : Type} {q : α → Bool} : ∀ (l : List α) (m : Nat), m ≤ l.length → (∀ t (h : t < l.length), t < m → q l[t] = true) → (∀ t (h : t < l.length), m ≤ t → q l[t] = false) → m = l.countP q
  | [], m, hm, _, _ => by simp at hm; simp [hm]
  | x :: l, 0, _, _, h2 => by
    symm
    refine List.countP_eq_zero.2 fun y hy => ?_
    obtain ⟨t, ht, rfl⟩ := List.getElem_of_mem hy
    rw [h2 t ht (Nat.zero_le _)]
    decide
  | x :: l, m + 1, hm, h1, h2 => by
    have h3 : q x = true := h1 0 (by simp) (by omega)
    rw [List.countP_cons_of_pos h3, ← count_cut l m (by simpa using hm) (fun t ht htm => h1 (t + 1) (by simpa using ht) (by omega)) (fun t ht htm => h2 (t + 1) (by simpa using ht) (by omega))]

theorem rkFirst_count {l : List Int} (hs : l.Pairwise (· ≤ ·)) (x : Int) : (rkFirst l x).1 = l.countP fun y => decide (y < x) := by
  have hget : ∀ i, i < l.length → l.getD i 0 = l[i]! := fun i hi => by simp [hi]
  obtain ⟨h1, h2, h3⟩ := bsrch_placeR (fun i => decide (x ≤ l.getD i 0)) l.length (fun i j hij hj hi => by
    by_cases e : i = j
    · exact e ▸ hi
    · have := List.pairwise_iff_getElem.1 hs i j (by omega) hj (by omega)
      simp [hj, show i < l.length by omega] at hi ⊢
      omega) l.length 0 l.length 0 (by omega) (by omega) (Nat.le_refl _) (by omega) (by omega)
  unfold rkFirst
  refine count_cut l _ h1 (fun t ht htm => ?_) (fun t ht htm => ?_)
  · have := h2 t htm
    simp [ht] at this
    simpa using this
  · have := h3 t htm ht
    simp [ht] at this
    simpa using this

theorem rkAbove_count {l : List Int} (hs : l.Pairwise (· ≤ ·)) (x : Int) : (rkAbove l x).1 = l.countP fun y => decide (y ≤ x) := by
  obtain ⟨h1, h2, h3⟩ := bsrch_placeR (fun i => decide (x < l.getD i 0)) l.length (fun i j hij hj hi => by
    by_cases e : i = j
    · exact e ▸ hi
    · have := List.pairwise_iff_getElem.1 hs i j (by omega) hj (by omega)
      simp [hj, show i < l.length by omega] at hi ⊢
      omega) l.length 0 l.length 0 (by omega) (by omega) (Nat.le_refl _) (by omega) (by omega)
  unfold rkAbove
  refine count_cut l _ h1 (fun t ht htm => ?_) (fun t ht htm => ?_)
  · have := h2 t htm
    simp [ht] at this
    simpa using this
  · have := h3 t htm ht
    simp [ht] at this
    simpa using this

theorem CscWF.ysS {R : List Pt} {gone : List Bool} {YS : List Nat} (h : CscWF R gone YS) : (ysR R YS).Pairwise (· ≤ ·) := List.pairwise_map.2 h.le
theorem ys_below {R : List Pt} {gone : List Bool} {YS : List Nat} (h : CscWF R gone YS) (y : Int) : (rkFirst (ysR R YS) y).1 = below (yvR R) y YS := by
  rw [rkFirst_count h.ysS]; unfold ysR below; rw [List.countP_map]; rfl
theorem ys_upto {R : List Pt} {gone : List Bool} {YS : List Nat} (h : CscWF R gone YS) (y : Int) : (rkAbove (ysR R YS) y).1 = upto (yvR R) y YS := by
  rw [rkAbove_count h.ysS]; unfold ysR upto; rw [List.countP_map]; rfl

theorem bsrch_lk (p : Nat → Bool) (n : Nat) : (bsrch p n 0 n 0).2 ≤ n ∧ (bsrch p n 0 n 0).1 ≤ n := by
  have := bsrch_looked p n 0 n 0 (by omega)
  omega

def AskP (S : World → List Nat → (Nat → Prop) → Prop) (W : World) (D : Nat → Prop) (r : List Nat × Nat) (e : Ending) (w' : World) : Prop :=
  e = .returned (.int .i64 r.2) ∧ ∃ D', S w' r.1 D' ∧ (∀ k, D' k → D k ∨ W.heap.size ≤ k) ∧ KpS D W w'

set_option maxRecDepth 100000 in
set_option maxHeartbeats 4000000 in
/-- a box is asked: nothing is there, or the box is none -/
theorem casc_ask0 (F : Nat) (cb : Array Value) (R : List Pt) (gone : List Bool) (YS : List Nat) (V : CscV) (lo hi tb fb : Nat) (W : World) (S : World → List Nat → (Nat → Prop) → Prop) (D : Nat → Prop) (x1 x2 y1 y2 bi : Int)
    (hA : CscAt W lo hi tb fb R gone YS V) (hb : R = [] ∨ x2 < x1 ∨ y2 < y1) (hst : ∀ W', Below W.heap.size W W' → S W' [] D) :
    Calls Tryz.prog 70 #[.pointer (some ⟨tb, 0, none⟩), .agg #[.int .i64 x1, .int .i64 x2, .int .i64 y1, .int .i64 y2, .int .u32 bi], .func (.func F) #[] cb] W (AskP S W D (askR R YS x1 x2 y1 y2)) := by
  have hb' := hA.blk
  have e : askR R YS x1 x2 y1 y2 = ([], 0) := by unfold askR; rw [if_pos hb]
  rw [e]
  obtain ⟨ra, rc, er⟩ := rowV hA.row
  have htl : tb < W.heap.size := Nat.lt_of_lt_of_le hA.tbr.2.1 hA.tbr.2.2.2.2
  rw [er] at hb'
  have HQ : Hid (∀ W', Below W.heap.size W W' → AskP S W D ([], 0) (.returned (.int .i64 0)) W') := fun W' h => ⟨rfl, D, hst W' h, fun k h => .inl h, (KpS.refl _ _).below h⟩
  obtain ⟨w1, ew1⟩ : ∃ w1, w1 = W.alloc (.cells #[.int .i64 x1, .int .i64 x2, .int .i64 y1, .int .i64 y2, .int .u32 bi] 61) := ⟨_, rfl⟩
  have hb1 : Below W.heap.size W w1 := by rw [ew1]; exact (Below.refl _ _).alloc (Nat.le_refl _) _
  have hbx : w1.heap[W.heap.size]? = some (.cells #[.int .i64 x1, .int .i64 x2, .int .i64 y1, .int .i64 y2, .int .u32 bi] 61 (0, 0)) := by rw [ew1]; exact lit0 W _
  have hb2 := (hb1.block tb htl).trans hb'
  have c0 : w1.cell? ⟨tb, 0, none⟩ = some (.slice ra R.length rc) := by simp [World.cell?, hb2]
  have c3 : w1.cell? ⟨tb, 3, none⟩ = some (.pointer (some ⟨fb, 0, none⟩)) := by simp [World.cell?, hb2]
  have b0 : w1.cell? ⟨W.heap.size, 0, none⟩ = some (.int .i64 x1) := by simp [World.cell?, hbx]
  have b1 : w1.cell? ⟨W.heap.size, 1, none⟩ = some (.int .i64 x2) := by simp [World.cell?, hbx]
  have b2 : w1.cell? ⟨W.heap.size, 2, none⟩ = some (.int .i64 y1) := by simp [World.cell?, hbx]
  have b3 : w1.cell? ⟨W.heap.size, 3, none⟩ = some (.int .i64 y2) := by simp [World.cell?, hbx]
  have CN := casc_none tb fb w1 c3
  have HB1 := Lib.hid hb1
  have hln : R.length = 0 ↔ R = [] := List.length_eq_zero_iff
  obtain ⟨n, hn⟩ : ∃ n, n = R.length := ⟨_, rfl⟩
  rw [← hn] at c0 hln
  rw [← hln] at hb
  clear hA hst hb2 hbx hb1 e er hb' hn hln
  by_cases h1 : n = 0
  · have d1 : ((n : Int) == 0) = true := by simp [h1]
    have d2 : (n == 0) = true := by simp [h1]
    have d3 : decide (n = 0) = true := by simp [h1]
    clear hb
    go_enter Tryz.func70, Tryz.ntmps70
    go_wp2_with fail
    rw [← ew1]
    clear ew1
    go_wp2_with (go_at_call 65; refine CN.mono ?_; rintro e w' ⟨rfl, rfl⟩)
    go_ret
    exact HQ.out _ HB1.out
  · have d1 : ((n : Int) == 0) = false := by simp; omega
    have d2 : (n == 0) = false := by simp; omega
    have d3 : decide (n = 0) = false := by simp; omega
    by_cases h2 : x2 < x1
    · have f1 : decide (x1 > x2) = true := by simp; omega
      have f2 : decide (x2 < x1) = true := by simp; omega
      clear hb
      go_enter Tryz.func70, Tryz.ntmps70
      go_wp2_with fail
      rw [← ew1]
      clear ew1
      go_wp2_with (go_at_call 65; refine CN.mono ?_; rintro e w' ⟨rfl, rfl⟩)
      go_ret
      exact HQ.out _ HB1.out
    · have f1 : decide (x1 > x2) = false := by simp; omega
      have f2 : decide (x2 < x1) = false := by simp; omega
      have g1 : decide (y1 > y2) = true := by simp; omega
      have g2 : decide (y2 < y1) = true := by simp; omega
      clear hb
      go_enter Tryz.func70, Tryz.ntmps70
      go_wp2_with fail
      rw [← ew1]
      clear ew1
      go_wp2_with (go_at_call 65; refine CN.mono ?_; rintro e w' ⟨rfl, rfl⟩)
      go_ret
      exact HQ.out _ HB1.out

set_option maxRecDepth 100000 in
set_option maxHeartbeats 4000000 in
theorem casc_ask1 (F : Nat) (cb : Array Value) (R : List Pt) (gone : List Bool) (YS : List Nat) (V : CscV) (lo hi tb fb B : Nat) (w0 W : World) (S : World → List Nat → (Nat → Prop) → Prop) (D : Nat → Prop) (x1 x2 y1 y2 bi : Int)
    (hA : CscAt w0 lo hi tb fb R gone YS V) (hW : CscWF R gone YS) (h0 : 0 < R.length) (hx : x1 ≤ x2) (hy : y1 ≤ y2) (hR : R.length ≤ 40000) (hB : B = w0.heap.size) (FL : List Nat)
    (hT : Told F cb (nds R.length) YS V.LN V.LL B w0 FL S) (hF : (askR R YS x1 x2 y1 y2).1 = FL) (hS : S W [] D) :
    Calls Tryz.prog 70 #[.pointer (some ⟨tb, 0, none⟩), .agg #[.int .i64 x1, .int .i64 x2, .int .i64 y1, .int .i64 y2, .int .u32 bi], .func (.func F) #[] cb] W (AskP S W D (askR R YS x1 x2 y1 y2)) := by
  have hbase := hT.base W [] D hS
  have hAW := hA.below hbase (by rw [hB]; exact hA.tbr.2.2.2.2)
  obtain ⟨ra, rc, er⟩ := rowV hAW.row
  have htl : tb < W.heap.size := Nat.lt_of_lt_of_le hAW.tbr.2.1 hAW.tbr.2.2.2.2
  have hfl : fb < W.heap.size := Nat.lt_of_lt_of_le hAW.tbr.2.2.2.1 hAW.tbr.2.2.2.2
  have hb' := hAW.blk
  have hYl := hW.len
  obtain ⟨xa, xc, exv, -, -, rx⟩ := Rd.of_owns hAW.xs
  obtain ⟨ya, yc, eyv, -, -, ry⟩ := Rd.of_owns hAW.ys
  rw [er, exv, eyv] at hb'
  have lx : (xsR R).length ≤ 40000 := by unfold xsR; rw [List.length_map]; exact hR
  have ly : (ysR R YS).length ≤ 40000 := by unfold ysR; rw [List.length_map]; omega
  have hne : ¬ (R = [] ∨ x2 < x1 ∨ y2 < y1) := by
    rintro (h | h | h)
    · subst h; simp at h0
    · omega
    · omega
  have eA : askR R YS x1 x2 y1 y2 = ((down YS (yvR R) y1 y2 (rkFirst (xsR R) x1).1 (rkAbove (xsR R) x2).1 (mkT 0 R.length)).1,
     (rkFirst (xsR R) x1).2 + (rkAbove (xsR R) x2).2 + (rkFirst (ysR R YS) y1).2 + (rkAbove (ysR R YS) y2).2 + (down YS (yvR R) y1 y2 (rkFirst (xsR R) x1).1 (rkAbove (xsR R) x2).1 (mkT 0 R.length)).2) := by unfold askR; rw [if_neg hne]
  have l1 := bsrch_lk (fun i => decide (x1 ≤ (xsR R).getD i 0)) (xsR R).length
  have l2 := bsrch_lk (fun i => decide (x2 < (xsR R).getD i 0)) (xsR R).length
  have l3 := bsrch_lk (fun i => decide (y1 ≤ (ysR R YS).getD i 0)) (ysR R YS).length
  have l4 := bsrch_lk (fun i => decide (y2 < (ysR R YS).getD i 0)) (ysR R YS).length
  have CD : ∀ W', Below W.heap.size W W' → Calls Tryz.prog 94 #[.pointer (some ⟨tb, 0, none⟩), .int .i64 (2 * R.length - 2 : Nat), .int .i64 (rkFirst (ysR R YS) y1).1, .int .i64 (rkAbove (ysR R YS) y2).1, .agg #[.int .i64 (rkFirst (xsR R) x1).1, .int .i64 (rkAbove (xsR R) x2).1, .func (.func F) #[] cb]] W' (DnP S W' D (down YS (yvR R) y1 y2 (rkFirst (xsR R) x1).1 (rkAbove (xsR R) x2).1 (mkT 0 R.length)).1 (down YS (yvR R) y1 y2 (rkFirst (xsR R) x1).1 (rkAbove (xsR R) x2).1 (mkT 0 R.length)).2) := fun W' hb => by
    obtain ⟨w1, w2, w3⟩ := mkT_spec 0 R.length h0
    have hsz := mkT_size 0 R.length h0
    have h := casc_down F cb (nds R.length) (nmR R) YS V.LN V.LL tb B w0 S (yvR R) y1 y2 (rkFirst (xsR R) x1).1 (rkAbove (xsR R) x2).1 (Nat.le_of_eq hB.symm) FL hT (hA.dn h0) hW.le hy (by rw [nds_len]; omega) (by omega) (by unfold rkFirst; omega) (by unfold rkAbove; omega) (mkT 0 R.length) 0 (nds_at R.length h0) w1 (by omega) W' [] D (hT.stable _ _ _ _ hS hb) (by rw [List.nil_append, ← hF, eA]; exact List.prefix_refl _)
    rw [hW.top h0, List.nil_append] at h
    rw [ys_below hW, ys_upto hW]
    have e : (mkT 0 R.length).root 0 = 2 * R.length - 2 := by unfold FT.root; omega
    rw [e] at h
    exact h
  have ldn := down_size (YS := YS) (yv := yvR R) (y1 := y1) (y2 := y2) (fr := (rkFirst (xsR R) x1).1) (ub := (rkAbove (xsR R) x2).1) (mkT 0 R.length)
  rw [mkT_size 0 R.length h0] at ldn
  rw [eA]
  have HCD := Lib.hid CD
  have CRT : ∀ W', Below W.heap.size W W' → Calls Tryz.prog 51 #[.pointer (some ⟨fb, 0, none⟩)] W' fun e w' => e = .returned (.int .i64 ((2 * R.length - 2 : Nat) : Int)) ∧ w' = W' := fun W' hb => by
    have hfb := (hb.block fb hfl).trans hAW.frm.blk
    exact frame_root fb R.length h0 (by omega) W' (by simp [World.cell?, hfb]) (by simp [World.cell?, hfb])
  have HCR := Lib.hid CRT
  have CX1 := fun W' (hb : Below W.heap.size W W') => rFirst xa (xsR R) xc x1 W' (rx.below hb) (by omega)
  have CX2 := fun W' (hb : Below W.heap.size W W') => rAbove xa (xsR R) xc x2 W' (rx.below hb) (by omega)
  have CY1 := fun W' (hb : Below W.heap.size W W') => rFirst ya (ysR R YS) yc y1 W' (ry.below hb) (by omega)
  have CY2 := fun W' (hb : Below W.heap.size W W') => rAbove ya (ysR R YS) yc y2 W' (ry.below hb) (by omega)
  have l1' : (rkFirst (xsR R) x1).2 ≤ 40000 := by unfold rkFirst; omega
  have l2' : (rkAbove (xsR R) x2).2 ≤ 40000 := by unfold rkAbove; omega
  have l3' : (rkFirst (ysR R YS) y1).2 ≤ 40000 := by unfold rkFirst; omega
  have l4' : (rkAbove (ysR R YS) y2).2 ≤ 40000 := by unfold rkAbove; omega
  have ldn' : (down YS (yvR R) y1 y2 (rkFirst (xsR R) x1).1 (rkAbove (xsR R) x2).1 (mkT 0 R.length)).2 ≤ 80000 := by omega
  clear CD CRT eA hne l1 l2 l3 l4 ldn rx ry exv eyv hF hT hS hA
  generalize down YS (yvR R) y1 y2 (rkFirst (xsR R) x1).1 (rkAbove (xsR R) x2).1 (mkT 0 R.length) = DD at *
  generalize hr1 : rkFirst (xsR R) x1 = r1 at *
  generalize hr2 : rkAbove (xsR R) x2 = r2 at *
  generalize hr3 : rkFirst (ysR R YS) y1 = r3 at *
  generalize hr4 : rkAbove (ysR R YS) y2 = r4 at *
  generalize hlx : (xsR R).length = nx at *
  generalize hly : (ysR R YS).length = ny at *
  obtain ⟨w1, ew1⟩ : ∃ w1, w1 = W.alloc (.cells #[.int .i64 x1, .int .i64 x2, .int .i64 y1, .int .i64 y2, .int .u32 bi] 61) := ⟨_, rfl⟩
  have hb1 : Below W.heap.size W w1 := by rw [ew1]; exact (Below.refl _ _).alloc (Nat.le_refl _) _
  have hbx : w1.heap[W.heap.size]? = some (.cells #[.int .i64 x1, .int .i64 x2, .int .i64 y1, .int .i64 y2, .int .u32 bi] 61 (0, 0)) := by rw [ew1]; exact lit0 W _
  have hb2 := (hb1.block tb htl).trans hb'
  have c0 : w1.cell? ⟨tb, 0, none⟩ = some (.slice ra R.length rc) := by simp [World.cell?, hb2]
  have c1 : w1.cell? ⟨tb, 1, none⟩ = some (.slice xa nx xc) := by simp [World.cell?, hb2, hlx]
  have c3 : w1.cell? ⟨tb, 3, none⟩ = some (.pointer (some ⟨fb, 0, none⟩)) := by simp [World.cell?, hb2]
  have c6 : w1.cell? ⟨tb, 6, none⟩ = some (.slice ya ny yc) := by simp [World.cell?, hb2, hly]
  have b0 : w1.cell? ⟨W.heap.size, 0, none⟩ = some (.int .i64 x1) := by simp [World.cell?, hbx]
  have b1 : w1.cell? ⟨W.heap.size, 1, none⟩ = some (.int .i64 x2) := by simp [World.cell?, hbx]
  have b2 : w1.cell? ⟨W.heap.size, 2, none⟩ = some (.int .i64 y1) := by simp [World.cell?, hbx]
  have b3 : w1.cell? ⟨W.heap.size, 3, none⟩ = some (.int .i64 y2) := by simp [World.cell?, hbx]
  have CN := casc_none tb fb w1 c3
  have HB1 := Lib.hid hb1
  obtain ⟨n, hn⟩ : ∃ n, n = R.length := ⟨_, rfl⟩
  rw [← hn] at c0 h0 hR HCR HCD
  have d1 : ((n : Int) == 0) = false := by simp; omega
  have d2 : (n == 0) = false := by simp; omega
  have d3 : decide (n = 0) = false := by simp; omega
  have f1 : decide (x1 > x2) = false := by simp; omega
  have f2 : decide (x2 < x1) = false := by simp; omega
  have g1 : decide (y1 > y2) = false := by simp; omega
  have g2 : decide (y2 < y1) = false := by simp; omega
  have HX1 := Lib.hid CX1
  have HX2 := Lib.hid CX2
  have HY1 := Lib.hid CY1
  have HY2 := Lib.hid CY2
  have hs1 : W.heap.size ≤ w1.heap.size := hb1.size
  clear hb2 hbx hb1 hb' hn CX1 CX2 CY1 CY2 hr1 hr2 hr3 hr4 hlx hly hAW hW hYl er hbase
  have htl1 : tb < w1.heap.size := Nat.lt_of_lt_of_le htl hs1
  have hbl1 : W.heap.size < w1.heap.size := by rw [ew1]; simp
  go_enter Tryz.func70, Tryz.ntmps70
  go_wp2_with fail
  rw [← ew1]
  clear ew1
  go_wp2_with (go_at_call 65; refine CN.mono ?_; rintro e w' ⟨rfl, ew'⟩; subst w')
  have HC0 : Hid (∀ p : BelowW w1, Calls Tryz.prog 88 #[.slice xa nx xc, .int .i64 x1] p.W fun e w' => e = .returned (.tuple #[.int .i64 r1.1, .int .i64 r1.2]) ∧ Below p.W.heap.size p.W w') := fun p => HX1.out _ (HB1.out.trans (p.h.mono HB1.out.size))
  have kc1 := cell_belowW c1
  have kc6 := cell_belowW c6
  have kc3 := cell_belowW c3
  have kb0 := cell_belowW b0
  have kb1 := cell_belowW b1
  have kb2 := cell_belowW b2
  have kb3 := cell_belowW b3
  refine wp_region_below (by kernel_rfl) (by kernel_rfl) ?_
  repeat (quiet_step ((go_at_call 88; exact calls_below (HC0.out _))))
  refine wpQuiet_nil ?_
  intro w2 hw'
  have hbb : Below w1.heap.size w1 w2 := by obtain ⟨p, rfl⟩ := hw'; exact p.h
  have HB2N := Lib.hid (HB1.out.trans (hbb.mono HB1.out.size))
  have nc1 := (hbb.cell (p := ⟨tb, 1, none⟩) htl1).trans c1
  have nc6 := (hbb.cell (p := ⟨tb, 6, none⟩) htl1).trans c6
  have nc3 := (hbb.cell (p := ⟨tb, 3, none⟩) htl1).trans c3
  have nb0 := (hbb.cell (p := ⟨W.heap.size, 0, none⟩) hbl1).trans b0
  have nb1 := (hbb.cell (p := ⟨W.heap.size, 1, none⟩) hbl1).trans b1
  have nb2 := (hbb.cell (p := ⟨W.heap.size, 2, none⟩) hbl1).trans b2
  have nb3 := (hbb.cell (p := ⟨W.heap.size, 3, none⟩) hbl1).trans b3
  have htl2 := Nat.lt_of_lt_of_le htl1 hbb.size
  have hbl2 := Nat.lt_of_lt_of_le hbl1 hbb.size
  clear hw' hbb HC0 kc1 kc6 kc3 kb0 kb1 kb2 kb3 c1 c6 c3 b0 b1 b2 b3
  have c1 := nc1
  clear nc1
  have c6 := nc6
  clear nc6
  have c3 := nc3
  clear nc3
  have b0 := nb0
  clear nb0
  have b1 := nb1
  clear nb1
  have b2 := nb2
  clear nb2
  have b3 := nb3
  clear nb3
  go_wp2_with fail
  have HC1 : Hid (∀ p : BelowW w2, Calls Tryz.prog 89 #[.slice xa nx xc, .int .i64 x2] p.W fun e w' => e = .returned (.tuple #[.int .i64 r2.1, .int .i64 r2.2]) ∧ Below p.W.heap.size p.W w') := fun p => HX2.out _ (HB2N.out.trans (p.h.mono HB2N.out.size))
  have kc1 := cell_belowW c1
  have kc6 := cell_belowW c6
  have kc3 := cell_belowW c3
  have kb0 := cell_belowW b0
  have kb1 := cell_belowW b1
  have kb2 := cell_belowW b2
  have kb3 := cell_belowW b3
  refine wp_region_below (by kernel_rfl) (by kernel_rfl) ?_
  repeat (quiet_step ((go_at_call 89; exact calls_below (HC1.out _))))
  refine wpQuiet_nil ?_
  intro w3 hw'
  have hbb : Below w2.heap.size w2 w3 := by obtain ⟨p, rfl⟩ := hw'; exact p.h
  have HB3N := Lib.hid (HB2N.out.trans (hbb.mono HB2N.out.size))
  have nc1 := (hbb.cell (p := ⟨tb, 1, none⟩) htl2).trans c1
  have nc6 := (hbb.cell (p := ⟨tb, 6, none⟩) htl2).trans c6
  have nc3 := (hbb.cell (p := ⟨tb, 3, none⟩) htl2).trans c3
  have nb0 := (hbb.cell (p := ⟨W.heap.size, 0, none⟩) hbl2).trans b0
  have nb1 := (hbb.cell (p := ⟨W.heap.size, 1, none⟩) hbl2).trans b1
  have nb2 := (hbb.cell (p := ⟨W.heap.size, 2, none⟩) hbl2).trans b2
  have nb3 := (hbb.cell (p := ⟨W.heap.size, 3, none⟩) hbl2).trans b3
  have htl3 := Nat.lt_of_lt_of_le htl2 hbb.size
  have hbl3 := Nat.lt_of_lt_of_le hbl2 hbb.size
  clear hw' hbb HC1 kc1 kc6 kc3 kb0 kb1 kb2 kb3 c1 c6 c3 b0 b1 b2 b3
  have c1 := nc1
  clear nc1
  have c6 := nc6
  clear nc6
  have c3 := nc3
  clear nc3
  have b0 := nb0
  clear nb0
  have b1 := nb1
  clear nb1
  have b2 := nb2
  clear nb2
  have b3 := nb3
  clear nb3
  go_wp2_with fail
  have HC2 : Hid (∀ p : BelowW w3, Calls Tryz.prog 88 #[.slice ya ny yc, .int .i64 y1] p.W fun e w' => e = .returned (.tuple #[.int .i64 r3.1, .int .i64 r3.2]) ∧ Below p.W.heap.size p.W w') := fun p => HY1.out _ (HB3N.out.trans (p.h.mono HB3N.out.size))
  have kc1 := cell_belowW c1
  have kc6 := cell_belowW c6
  have kc3 := cell_belowW c3
  have kb0 := cell_belowW b0
  have kb1 := cell_belowW b1
  have kb2 := cell_belowW b2
  have kb3 := cell_belowW b3
  refine wp_region_below (by kernel_rfl) (by kernel_rfl) ?_
  repeat (quiet_step ((go_at_call 88; exact calls_below (HC2.out _))))
  refine wpQuiet_nil ?_
  intro w4 hw'
  have hbb : Below w3.heap.size w3 w4 := by obtain ⟨p, rfl⟩ := hw'; exact p.h
  have HB4N := Lib.hid (HB3N.out.trans (hbb.mono HB3N.out.size))
  have nc1 := (hbb.cell (p := ⟨tb, 1, none⟩) htl3).trans c1
  have nc6 := (hbb.cell (p := ⟨tb, 6, none⟩) htl3).trans c6
  have nc3 := (hbb.cell (p := ⟨tb, 3, none⟩) htl3).trans c3
  have nb0 := (hbb.cell (p := ⟨W.heap.size, 0, none⟩) hbl3).trans b0
  have nb1 := (hbb.cell (p := ⟨W.heap.size, 1, none⟩) hbl3).trans b1
  have nb2 := (hbb.cell (p := ⟨W.heap.size, 2, none⟩) hbl3).trans b2
  have nb3 := (hbb.cell (p := ⟨W.heap.size, 3, none⟩) hbl3).trans b3
  have htl4 := Nat.lt_of_lt_of_le htl3 hbb.size
  have hbl4 := Nat.lt_of_lt_of_le hbl3 hbb.size
  clear hw' hbb HC2 kc1 kc6 kc3 kb0 kb1 kb2 kb3 c1 c6 c3 b0 b1 b2 b3
  have c1 := nc1
  clear nc1
  have c6 := nc6
  clear nc6
  have c3 := nc3
  clear nc3
  have b0 := nb0
  clear nb0
  have b1 := nb1
  clear nb1
  have b2 := nb2
  clear nb2
  have b3 := nb3
  clear nb3
  go_wp2_with fail
  have HC3 : Hid (∀ p : BelowW w4, Calls Tryz.prog 89 #[.slice ya ny yc, .int .i64 y2] p.W fun e w' => e = .returned (.tuple #[.int .i64 r4.1, .int .i64 r4.2]) ∧ Below p.W.heap.size p.W w') := fun p => HY2.out _ (HB4N.out.trans (p.h.mono HB4N.out.size))
  have kc1 := cell_belowW c1
  have kc6 := cell_belowW c6
  have kc3 := cell_belowW c3
  have kb0 := cell_belowW b0
  have kb1 := cell_belowW b1
  have kb2 := cell_belowW b2
  have kb3 := cell_belowW b3
  refine wp_region_below (by kernel_rfl) (by kernel_rfl) ?_
  repeat (quiet_step ((go_at_call 89; exact calls_below (HC3.out _))))
  refine wpQuiet_nil ?_
  intro w5 hw'
  have hbb : Below w4.heap.size w4 w5 := by obtain ⟨p, rfl⟩ := hw'; exact p.h
  have HB5N := Lib.hid (HB4N.out.trans (hbb.mono HB4N.out.size))
  have nc1 := (hbb.cell (p := ⟨tb, 1, none⟩) htl4).trans c1
  have nc6 := (hbb.cell (p := ⟨tb, 6, none⟩) htl4).trans c6
  have nc3 := (hbb.cell (p := ⟨tb, 3, none⟩) htl4).trans c3
  have nb0 := (hbb.cell (p := ⟨W.heap.size, 0, none⟩) hbl4).trans b0
  have nb1 := (hbb.cell (p := ⟨W.heap.size, 1, none⟩) hbl4).trans b1
  have nb2 := (hbb.cell (p := ⟨W.heap.size, 2, none⟩) hbl4).trans b2
  have nb3 := (hbb.cell (p := ⟨W.heap.size, 3, none⟩) hbl4).trans b3
  have htl5 := Nat.lt_of_lt_of_le htl4 hbb.size
  have hbl5 := Nat.lt_of_lt_of_le hbl4 hbb.size
  clear hw' hbb HC3 kc1 kc6 kc3 kb0 kb1 kb2 kb3 c1 c6 c3 b0 b1 b2 b3
  have c1 := nc1
  clear nc1
  have c6 := nc6
  clear nc6
  have c3 := nc3
  clear nc3
  have b0 := nb0
  clear nb0
  have b1 := nb1
  clear nb1
  have b2 := nb2
  clear nb2
  have b3 := nb3
  clear nb3
  go_wp2_with fail
  refine (HCR.out w5 HB5N.out).mono ?_
  rintro e w' ⟨rfl, ew'⟩
  subst w'
  go_wp2_with fail
  refine (HCD.out w5 HB5N.out).mono ?_
  rintro e w6 ⟨rfl, D', hS6, hD6, hK6⟩
  have H6 : Hid (AskP S W D (DD.1, r1.2 + r2.2 + r3.2 + r4.2 + DD.2) (.returned (.int .i64 (r1.2 + r2.2 + r3.2 + r4.2 + DD.2 : Nat))) w6) :=
    ⟨rfl, D', hS6, fun k h => (hD6 k h).imp id fun h9 => Nat.le_trans HB5N.out.size h9, (((KpS.refl (fun k => D k ∨ W.heap.size ≤ k) W).below HB5N.out).trans (hK6.mono fun k h => .inl h)).strip⟩
  clear hS6 hD6 hK6
  go_wp2
  go_ret
  have H7 := H6.out
  have e7 : ((r1.2 + r2.2 + r3.2 + r4.2 + DD.2 : Nat) : Int) = (((r1.2 : Int) + (r2.2 : Int)) + (r3.2 : Int) + (r4.2 : Int)) + (DD.2 : Int) := by omega
  rw [e7] at H7
  exact H7

end Go.Proofs.YtggfdlanobndjaaGreat

/- cascade.Report, Count, Len: what a tree tells. -/
namespace Go.Proofs.YtggfdlanobndjaaGreat
open Go.RowKit Go.Sort Go.Shelf Go.Lib Go.Maps
attribute [local irreducible] wpQuiet
attribute [local go_sem] Oper.still1
set_option linter.unusedSimpArgs false
set_option linter.unusedVariables false

theorem askR_len {R : List Pt} {gone : List Bool} {YS : List Nat} (hW : CscWF R gone YS) (hR : R.length ≤ 40000) (x1 x2 y1 y2 : Int) : (askR R YS x1 x2 y1 y2).1.length ≤ R.length ∧ (askR R YS x1 x2 y1 y2).2 ≤ 400000 := by
  unfold askR
  split
  · exact ⟨Nat.zero_le _, Nat.zero_le _⟩
  · rename_i h
    have h0 : 0 < R.length := by
      cases R with
      | nil => simp at h
      | cons a b => simp
    have hyy : y1 ≤ y2 := by omega
    obtain ⟨w1, w2, w3⟩ := mkT_spec 0 R.length h0
    refine ⟨?_, ?_⟩
    · refine nodup_ltR (down_nodup _ w1 hW.nodup hW.le hyy) fun k hk => ?_
      have := ((down_mem _ w1 hW.le hyy k).1 hk).1
      rw [hW.top h0] at this
      exact hW.lt this
    · have l1 := bsrch_lk (fun i => decide (x1 ≤ (xsR R).getD i 0)) (xsR R).length
      have l2 := bsrch_lk (fun i => decide (x2 < (xsR R).getD i 0)) (xsR R).length
      have l3 := bsrch_lk (fun i => decide (y1 ≤ (ysR R YS).getD i 0)) (ysR R YS).length
      have l4 := bsrch_lk (fun i => decide (y2 < (ysR R YS).getD i 0)) (ysR R YS).length
      have l5 : (xsR R).length = R.length := by unfold xsR; simp
      have l6 : (ysR R YS).length = YS.length := by unfold ysR; simp
      have l7 := hW.len
      have ldn := down_size (YS := YS) (yv := yvR R) (y1 := y1) (y2 := y2) (fr := (rkFirst (xsR R) x1).1) (ub := (rkAbove (xsR R) x2).1) (mkT 0 R.length)
      rw [mkT_size 0 R.length h0] at ldn
      show (rkFirst (xsR R) x1).2 + (rkAbove (xsR R) x2).2 + (rkFirst (ysR R YS) y1).2 + (rkAbove (ysR R YS) y2).2 + _ ≤ _
      have e1 : (rkFirst (xsR R) x1).2 ≤ 40000 := by unfold rkFirst; omega
      have e2 : (rkAbove (xsR R) x2).2 ≤ 40000 := by unfold rkAbove; omega
      have e3 : (rkFirst (ysR R YS) y1).2 ≤ 40000 := by unfold rkFirst; omega
      have e4 : (rkAbove (ysR R YS) y2).2 ≤ 40000 := by unfold rkAbove; omega
      omega

theorem casc_ask (F : Nat) (cb : Array Value) (R : List Pt) (gone : List Bool) (YS : List Nat) (V : CscV) (lo hi tb fb : Nat) (w0 W : World) (S : World → List Nat → (Nat → Prop) → Prop) (D : Nat → Prop) (x1 x2 y1 y2 bi : Int)
    (hA : CscAt w0 lo hi tb fb R gone YS V) (hW : CscWF R gone YS) (hR : R.length ≤ 40000)
    (hb : Below w0.heap.size w0 W) (hst : ∀ W', Below W.heap.size W W' → S W' [] D)
    (hT : 0 < R.length → Told F cb (nds R.length) YS V.LN V.LL w0.heap.size w0 (askR R YS x1 x2 y1 y2).1 S) (hS : S W [] D) :
    Calls Tryz.prog 70 #[.pointer (some ⟨tb, 0, none⟩), .agg #[.int .i64 x1, .int .i64 x2, .int .i64 y1, .int .i64 y2, .int .u32 bi], .func (.func F) #[] cb] W (AskP S W D (askR R YS x1 x2 y1 y2)) := by
  by_cases h : R = [] ∨ x2 < x1 ∨ y2 < y1
  · exact casc_ask0 F cb R gone YS V lo hi tb fb W S D x1 x2 y1 y2 bi (hA.below hb hA.tbr.2.2.2.2) h hst
  · have h0 : 0 < R.length := by
      cases R with
      | nil => simp at h
      | cons a b => simp
    exact casc_ask1 F cb R gone YS V lo hi tb fb _ w0 W S D x1 x2 y1 y2 bi hA hW h0 (by omega) (by omega) hR rfl _ (hT h0) rfl hS

def RepP (w : World) (R : List Pt) (r : List Nat × Nat) (e : Ending) (w' : World) : Prop :=
  ∃ v, e = .returned (.tuple #[v, .int .i64 (r.2 + r.1.length : Nat)]) ∧ w'.ownsRow w.heap.size 32 1 v r.1.length ((srtI (r.1.map (nmR R))).map (Value.int .u32)) ∧ Below w.heap.size w w'

set_option maxRecDepth 100000 in
set_option maxHeartbeats 4000000 in
theorem casc_report {w : World} {lo hi tb fb : Nat} {R : List Pt} {gone : List Bool} {YS : List Nat} {V : CscV} (hA : CscAt w lo hi tb fb R gone YS V) (hW : CscWF R gone YS) (hR : R.length ≤ 40000) (x1 x2 y1 y2 bi : Int) :
    Calls Tryz.prog 29 #[.pointer (some ⟨tb, 0, none⟩), .agg #[.int .i64 x1, .int .i64 x2, .int .i64 y1, .int .i64 y2, .int .u32 bi]] w (RepP w R (askR R YS x1 x2 y1 y2)) := by
  obtain ⟨w1, ew1⟩ : ∃ w1, w1 = (w.alloc (.cells #[.int .i64 x1, .int .i64 x2, .int .i64 y1, .int .i64 y2, .int .u32 bi] 61)).alloc (.cells #[.slice none 0 0] 40) := ⟨_, rfl⟩
  have hb1 : Below w.heap.size w w1 := by rw [ew1]; exact ((Below.refl _ _).alloc (Nat.le_refl _) _).alloc (by simp) _
  have ho1 : w1.heap[w.heap.size + 1]? = some (.cells #[.slice none 0 0] 40 (0, 0)) := by rw [ew1]; exact lit2 w _ _
  have hx1 : w1.heap[w.heap.size]? = some (.cells #[.int .i64 x1, .int .i64 x2, .int .i64 y1, .int .i64 y2, .int .u32 bi] 61 (0, 0)) := by rw [ew1]; exact lit1 w _ _
  have hS : RepS w.heap.size (w.heap.size + 1) (nmR R) w w1 [] (fun k => k = w.heap.size + 1 ∨ (Value.slice none 0 0).ownBlock = some k) :=
    ⟨hb1, .slice none 0 0, ho1, World.ownsRow_nil _ _ _ _, rfl⟩
  obtain ⟨hlen, hcost⟩ := askR_len hW hR x1 x2 y1 y2
  have hYl := hW.len
  have CA := casc_ask 71 #[.pointer (some ⟨w.heap.size + 1, 0, none⟩)] R gone YS V lo hi tb fb w w1 (RepS w.heap.size (w.heap.size + 1) (nmR R) w) _ x1 x2 y1 y2 bi hA hW hR hb1
    (fun W' hb => by
      obtain ⟨g1, v, g2, g3, g4⟩ := hS
      exact ⟨g1.trans (hb.mono hb1.size), v, (hb.block _ (Array.getElem?_eq_some_iff.1 g2).1).trans g2, ownsRow_below g3 hb, g4⟩)
    (fun h0 => rep_told (nds R.length) (nmR R) YS V.LN V.LL tb w.heap.size (w.heap.size + 1) w _ (by omega) (by omega) rfl (hA.dn h0) (by omega)) hS
  generalize askR R YS x1 x2 y1 y2 = r at *
  have HCA := Lib.hid CA
  have c0 : w1.cell? ⟨w.heap.size, 0, none⟩ = some (.int .i64 x1) := by simp [World.cell?, hx1]
  have c1 : w1.cell? ⟨w.heap.size, 1, none⟩ = some (.int .i64 x2) := by simp [World.cell?, hx1]
  have c2 : w1.cell? ⟨w.heap.size, 2, none⟩ = some (.int .i64 y1) := by simp [World.cell?, hx1]
  have c3 : w1.cell? ⟨w.heap.size, 3, none⟩ = some (.int .i64 y2) := by simp [World.cell?, hx1]
  have c4 : w1.cell? ⟨w.heap.size, 4, none⟩ = some (.int .u32 bi) := by simp [World.cell?, hx1]
  have hz1 : w1.heap.size = w.heap.size + 2 := by rw [ew1]; simp
  have HB1 := Lib.hid hb1
  have hrl : r.1.length ≤ 40000 := by omega
  clear CA hS hx1 ho1 hb1 hA hlen
  go_enter Tryz.func29, Tryz.ntmps29
  go_wp2_with fail
  rw [← ew1]
  clear ew1
  refine HCA.out.mono ?_
  rintro e w2 ⟨rfl, D', ⟨hb2, v, ho2, hv2, rfl⟩, hD, hK⟩
  have HV2 := Lib.hid hv2
  have HB2 := Lib.hid hb2
  have HO2 := Lib.hid ho2
  have k0 : w2.cell? ⟨w.heap.size + 1, 0, none⟩ = some v := by simp [World.cell?, ho2]
  have hvo : ∀ gb, v.ownBlock = some gb → w.heap.size + 1 ≠ gb := row_ne hv2 ho2 (by decide)
  have HVO := Lib.hid hvo
  have hol := (Array.getElem?_eq_some_iff.1 ho2).1
  have CS := Lib.hid (sortU32 (l := r.1.map (nmR R)) hv2 (by omega))
  obtain ⟨va, vc, rfl⟩ := rowV hv2
  clear hv2 hb2 ho2 hK hD hvo HCA
  go_wp2_with fail
  refine CS.out.mono ?_
  rintro e w3 ⟨rfl, hv3, hK3⟩
  have HV3 := Lib.hid hv3
  have k3 : w3.cell? ⟨w.heap.size + 1, 0, none⟩ = some (.slice va r.1.length vc) := ((cellK hK3 hol (fun h => HVO.out _ h rfl)).1 0).trans k0
  have HK3 : Hid (Below w.heap.size w w3) := HB2.out.trans (hK3.toBelow HB2.out.size (fun k h => (HV2.out.lt k h).1))
  clear hv3 hK3 k0 CS
  go_wp2_with fail
  go_quiet (fail)
  go_wp2
  go_ret2
  exact ⟨_, rfl, HV3.out, HK3.out.trans (Below.drewAny _ _)⟩

set_option maxRecDepth 100000 in
theorem casc_len {w : World} {lo hi tb fb : Nat} {R : List Pt} {gone : List Bool} {YS : List Nat} {V : CscV} (hA : CscAt w lo hi tb fb R gone YS V) :
    Calls Tryz.prog 30 #[.pointer (some ⟨tb, 0, none⟩)] w fun e w' => e = .returned (.int .i64 YS.length) ∧ w' = w := by
  have hb := hA.blk
  have c3 : w.cell? ⟨tb, 3, none⟩ = some (.pointer (some ⟨fb, 0, none⟩)) := by simp [World.cell?, hb]
  have c7 : w.cell? ⟨tb, 7, none⟩ = some (.int .i64 YS.length) := by simp [World.cell?, hb]
  have CN := casc_none tb fb w c3
  clear hb hA
  go_enter Tryz.func30, Tryz.ntmps30
  go_wp2_with (go_at_call 65; refine CN.mono ?_; rintro e w' ⟨rfl, rfl⟩)
  go_ret
  exact ⟨rfl, rfl⟩

set_option maxRecDepth 100000 in
theorem casc_none_nil (w : World) : Calls Tryz.prog 65 #[.pointer none] w fun e w' => e = .returned (.bool true) ∧ w' = w := by
  go_enter Tryz.func65, Tryz.ntmps65
  go_wp2
  go_ret
  exact ⟨rfl, rfl⟩

set_option maxRecDepth 100000 in
theorem casc_len_nil (w : World) : Calls Tryz.prog 30 #[.pointer none] w fun e w' => e = .returned (.int .i64 0) ∧ w' = w := by
  have CN := casc_none_nil w
  go_enter Tryz.func30, Tryz.ntmps30
  go_wp2_with (go_at_call 65; refine CN.mono ?_; rintro e w' ⟨rfl, rfl⟩)
  go_ret
  exact ⟨rfl, rfl⟩
end Go.Proofs.YtggfdlanobndjaaGreat
