/- heap.Build's places in order by Y: slices.SortFunc over numbers, with the closure that compares the row's points. -/
import Derived.Test.YtggfdlanobndjaaGreatRep
import Derived.Test.YtggfdlanobndjaaGreatQ5
import Derived.Test.YtggfdlanobndjaaGreatQ2
import Derived.Test.YtggfdlanobndjaaGreatShelf3
import Derived.Shelf.SlSortCmp.Whole1
namespace Go.Proofs.YtggfdlanobndjaaGreat
open Go.RowKit Go.Sort Go.Shelf Go.Lib Go.Maps
attribute [local irreducible] wpQuiet
attribute [local go_sem] Oper.still1
set_option linter.unusedSimpArgs false
set_option linter.unusedVariables false

theorem enters_hcl : ∀ args w, (callFunc 47 args).run Tryz.prog w = .ok (.enter 47 args) w := enters_of Tryz.func47 (by kernel_rfl) rfl

set_option maxRecDepth 100000 in
set_option maxHeartbeats 1000000 in
theorem heap_cl {W : World} {tb tc : Nat} {ra : Option Addr} {rc n : Nat} {R : List Pt} (htc : W.cell? ⟨tc, 0, none⟩ = some (.pointer (some ⟨tb, 0, none⟩))) (c0 : W.cell? ⟨tb, 0, none⟩ = some (.slice ra n rc)) (hr : RdK ePt 3 W ra R) (hn : R.length = n) (i j : Nat) (hi : i < n) (hj : j < n) (hn2 : n ≤ 1000000) :
    Calls Tryz.prog 47 #[.int .i64 i, .int .i64 j, .pointer (some ⟨tc, 0, none⟩)] W fun e w' => e = .returned (.int .i64 (ordY (ptAt R i) (ptAt R j))) ∧ Grw W w' := by
  have hiR : i < R.length := by omega
  have hjR : j < R.length := by omega
  obtain ⟨rb, ro, era, hrb, hrc⟩ := hr.get (by omega)
  have r0 := hrc i hiR 0 (by omega)
  have r1 := hrc i hiR 1 (by omega)
  have r2 := hrc i hiR 2 (by omega)
  have v0 := hrc j hjR 0 (by omega)
  have v1 := hrc j hjR 1 (by omega)
  have v2 := hrc j hjR 2 (by omega)
  simp only [ePt, List.getElem?_cons_zero, List.getElem?_cons_succ, Nat.add_zero] at r0 r1 r2 v0 v1 v2
  rw [← ptAt_eq hiR] at r0 r1 r2
  rw [← ptAt_eq hjR] at v0 v1 v2
  subst era
  clear hrc hiR hjR hr hn
  generalize ptAt R i = p at *
  generalize ptAt R j = q at *
  have HC := Lib.hid (fun W => iByY p q W)
  generalize ordY p q = od at *
  obtain ⟨px, py, pi⟩ := p
  obtain ⟨qx, qy, qi⟩ := q
  simp only at r0 r1 r2 v0 v1 v2
  have g0 := cell_belowW htc
  have g1 := cell_belowW c0
  have k1 := cell_belowW r0
  have k2 := cell_belowW r1
  have k3 := cell_belowW r2
  have k4 := cell_belowW v0
  have k5 := cell_belowW v1
  have k6 := cell_belowW v2
  go_enter Tryz.func47, Tryz.ntmps47
  go_upto_region 1 with fail
  refine wp_region_head (fun W' => ∃ p : BelowW W, W' = p.W) [14, 15] [(0, true), (1, false), (2, false), (3, true), (4, false), (5, false), (6, true), (7, true), (8, false), (9, false), (10, true), (11, false), (12, false), (13, true)] (by kernel_rfl) (by kernel_rfl) (fun _ _ d _ _ h => by cases d <;> exact h) ⟨⟨_, (Below.refl _ _).drew⟩, rfl⟩ 2 rfl (by kernel_rfl) ?_
  simp only [pickB, List.filterMap_cons, List.filterMap_nil, List.getElem?_toArray, List.getElem?_cons_succ, List.getElem?_cons_zero, Option.map_some]
  repeat (refine wpHd_step (fun K hK => ?_); go_simp; first | (refine hK _ ?_; clear hK K) | (apply Exists.intro; refine ⟨fun _ => ?_, hK _ ?_⟩; rfl; clear hK K))
  refine wpHd_nil ?_
  refine wpAnyT_ready [14] (by kernel_rfl) (by simp) ?_
  refine AllReadyT.cons rfl (fun K hK => ?_) AllReadyT.nil
  refine step_call enters_ByY rfl _ _ rfl (vals := #[vPt px py pi, vPt qx qy qi]) rfl (HC.out W.drew) ?_
  rintro e w2 ⟨rfl, hg⟩
  refine ⟨_, rfl, hK _ _ (fun _ h => absurd (by simp) h) ?_⟩
  clear hK K
  refine wpAnyT_line [15] _ _ _ (by kernel_rfl) ?_
  simp only [pick, List.filterMap_cons, List.filterMap_nil, List.getElem?_toArray, List.getElem?_cons_succ, List.getElem?_cons_zero]
  have HG : Hid (Grw W w2) := ((Grw.refl W).drew).trans hg
  clear hg
  go_wp2
  go_ret
  exact ⟨rfl, HG.out⟩

theorem swoP (R : List Pt) (n : Nat) : SWO (ltOf fun i j : Fin n => ordY (ptAt R i) (ptAt R j)) :=
  ⟨fun x => swoY.irrefl (ptAt R x), fun x y z => swoY.trans (ptAt R x) (ptAt R y) (ptAt R z), fun x y z => swoY.ntrans (ptAt R x) (ptAt R y) (ptAt R z)⟩

theorem sortPlc {w : World} {base g c n tb tc : Nat} {ra : Option Addr} {rc : Nat} {R : List Pt} (hu : (ids R).Nodup) (hx : R.Pairwise ltX) (hn : R.length = n) (h0 : 0 < n) (hn2 : n ≤ 1000000) (hrow : w.ownsRow base 3 1 (.slice (some ⟨g, 0, none⟩) n c) n ((List.range n).map eNat))
    (htc : w.cell? ⟨tc, 0, none⟩ = some (.pointer (some ⟨tb, 0, none⟩))) (c0 : w.cell? ⟨tb, 0, none⟩ = some (.slice ra n rc)) (hr : RdK ePt 3 w ra R) (h1 : tc ≠ g) (h2 : tb ≠ g) (h3 : ∀ ad, ra = some ad → ad.block ≠ g) :
    Calls Tryz.prog 46 #[.slice (some ⟨g, 0, none⟩) n c, .func (.func 47) #[] #[.pointer (some ⟨tc, 0, none⟩)]] w fun e w' =>
      e = .returned (.tuple #[]) ∧ w'.ownsRow base 3 1 (.slice (some ⟨g, 0, none⟩) n c) n ((ysOf R).map eNat) ∧ KpS (fun k => k = g) w w' := by
  haveI : Inhabited (Fin n) := ⟨⟨0, h0⟩⟩
  obtain ⟨cur, hg, hh, hc, hm, hs, ht⟩ : ∃ cur : Array Value, base ≤ g ∧ w.heap[g]? = some (.cells cur 3 (0, 0)) ∧ n ≤ c ∧ c ≤ maxLen ∧ cur.size = c ∧ cur.toList.take n = (List.range n).map eNat := by
    rcases hrow.2 with ⟨e, -⟩ | ⟨g', cap, cur, e, q1, q2, q3, q4, q5, q6⟩
    · cases e
    · injection e with e1 e2 e3
      injection e1 with e1
      injection e1 with e1 _ _
      subst e1 e3
      exact ⟨cur, q1, q2, q3, q4, by omega, by rwa [Nat.mul_one] at q6⟩
  obtain ⟨l, hl⟩ : ∃ l : List (Fin n), l = List.finRange n := ⟨_, rfl⟩
  have hll : l.length = n := by rw [hl]; simp
  have hlm : l.map (fun i : Fin n => (i : Nat)) = List.range n := by rw [hl]; exact List.ext_getElem (by simp) (fun i h1 h2 => by simp)
  obtain ⟨enc, henc⟩ : ∃ enc : Fin n → Value, enc = fun i => eNat i.val := ⟨_, rfl⟩
  have hle : l.map enc = (List.range n).map eNat := by rw [← hlm, List.map_map, henc]; rfl
  have hH : Holds enc w g 0 l.toArray := holds_of_block hh (by rw [hll, ht, hle])
  have hlt : g < w.heap.size := (Array.getElem?_eq_some_iff.1 hh).1
  have hkeep : ∀ (m : Nat) (os : Array Obj) (dk : Array (Fin n)), KpS (fun k => k = g) w (sortWorld enc w g 0 m dk os) := fun m os dk => by
    refine ⟨rfl, rfl, rfl, ?_, fun k hk hne => ?_⟩
    · show w.heap.size ≤ ((w.heap.modify g _) ++ os).size
      simp
    · show ((w.heap.modify g _) ++ os)[k]? = _
      rw [Array.getElem?_append_left (by simp; omega), Array.getElem?_modify, if_neg (fun e => hne e.symm)]
  have htl := World.block_lt_of_cell? w _ htc
  have htbl := World.block_lt_of_cell? w _ c0
  have hcmp : CmpLays1 Tryz.prog 47 #[.pointer (some ⟨tc, 0, none⟩)] enc (fun i j : Fin n => ordY (ptAt R i) (ptAt R j)) g 0 l.toArray.size w := fun m os dk _ x y => by
    have K := hkeep m os dk
    rw [henc] at K ⊢
    refine (heap_cl (((cellK K htl h1).1 0).trans htc) (((cellK K htbl h2).1 0).trans c0) ?_ hn x y x.2 y.2 hn2).mono fun e w' ⟨he, q, os', hw⟩ => ⟨he, q, os', hw⟩
    rcases hr with hr | ⟨b, off, rfl, hb, hcs⟩
    · exact .inl hr
    · exact .inr ⟨b, off, rfl, Nat.lt_of_lt_of_le hb K.size, fun i hi j hj => ((cellK K hb (h3 _ rfl)).1 _).trans (hcs i hi j hj)⟩
  have hC := Any.slices_SortFunc Tryz.sortInts enc (fun x => by rw [henc]; rfl) (fun i j : Fin n => ordY (ptAt R i) (ptAt R j)) (swoP R n) 47 #[.pointer (some ⟨tc, 0, none⟩)] g 0 c l.toArray w enters_hcl hcmp hH hlt (by simp [hll]; omega)
  change Calls Tryz.prog 46 _ _ _ at hC
  rw [show l.toArray.size = n by simpa using hll] at hC
  refine hC.mono ?_
  rintro e w' ⟨he, d', m, os, hp, hso, rfl⟩
  have hpl := perm_of_permIn (d := l.toArray) (d' := d') (by rw [show l.toArray.size = n by simpa using hll]; exact hp)
  have hdl : d'.toList.length = n := by rw [hpl.length_eq]; simpa using hll
  have hW := ysOf_wf hx hu
  have hds : (d'.toList.map fun i : Fin n => (i : Nat)).Pairwise (ltI R) := by
    refine List.pairwise_map.2 ?_
    have hnd : d'.toList.Nodup := hpl.nodup_iff.2 (by rw [hl]; simpa using List.nodup_finRange n)
    have hsp : d'.toList.Pairwise fun i j : Fin n => ¬ ordY (ptAt R j) (ptAt R i) < 0 := by
      rw [List.pairwise_iff_getElem]
      intro i j hi hj hij
      have hz : d'.size = n := by simpa using hdl
      have h3 := hso i j (Nat.zero_le _) hij (by simp at hj ⊢; omega)
      simp at hi hj
      rw [getElem!_pos d' j (by omega), getElem!_pos d' i (by omega)] at h3
      unfold ltOf at h3
      simpa using h3
    refine List.Pairwise.imp (fun {i j} h => ?_) (hsp.and hnd)
    obtain ⟨q1, q2⟩ := h
    rw [ordY_lt] at q1
    have hne : (i : Nat) ≠ (j : Nat) := fun e => q2 (Fin.ext e)
    have := nmR_ne hu (i := i) (k := j) (by omega) (by omega) hne
    unfold nmR at this
    unfold ltI
    unfold ltY at *
    omega
  have he2 : d'.toList.map (fun i : Fin n => (i : Nat)) = ysOf R := by
    refine sorted_ext (R := ltI R) (fun i => ltY_irr _) (fun h h' => ltY_asymm h h') hds hW.ysY fun i => ?_
    rw [(hpl.map _).mem_iff, hW.live, List.getElem?_replicate]
    show i ∈ l.map _ ↔ _
    rw [hlm, List.mem_range]
    constructor
    · intro h; rw [if_pos (by omega)]
    · intro h
      by_cases h9 : i < R.length
      · omega
      · rw [if_neg h9] at h; cases h
  obtain ⟨cur', -, -, -, h9⟩ := owns_putRow (enc := enc) (l := l) (l' := d'.toList) hg hh (by omega) hm hs (by omega) m os
  rw [hdl] at h9
  have he3 : d'.toList.map enc = (ysOf R).map eNat := by rw [← he2, List.map_map, henc]; rfl
  rw [he3] at h9
  refine ⟨he, ?_, hkeep m os d'⟩
  simpa [sortWorld] using h9
end Go.Proofs.YtggfdlanobndjaaGreat
