/- gridironlaw14: asked, awake. -/
import Derived.Test.YtggfdlanobndjaaGreatL14w
import Derived.Test.YtggfdlanobndjaaGreatL14p
import Derived.Test.YtggfdlanobndjaaGreatHdu
namespace Go.Proofs.YtggfdlanobndjaaGreat
open Go.RowKit Go.Maps
attribute [local irreducible] wpQuiet
attribute [local go_sem] Oper.still1
set_option linter.unusedSimpArgs false
set_option linter.unusedVariables false

theorem ent_lows14 : ∀ args w, (callFunc 72 args).run Tryz.prog w = .ok (.enter 72 args) w := enters_of Tryz.func72 (by kernel_rfl) rfl
theorem lws_of {l S : List Pt} {x1 x2 : Int} (hu : (ids l).Nodup) (hs : S.Pairwise ltY) (hp : S.Perm (l.filter (inX x1 x2))) : lws l x1 x2 = S := (srtY_eq (lws_nod hu x1 x2) hs fun p => hp.mem_iff).symm
abbrev aw14 : List Pt := [(0, 0, 1), (2, 5, 2), (2, 1, 3), (7, 3, 4)]
abbrev aw14d : List Pt := [(0, 0, 1), (2, 5, 2), (7, 3, 4)]
theorem aw4a : lws aw14 1 9 = [(2, 1, 3), (7, 3, 4), (2, 5, 2)] := lws_of (by decide) (by decide) (by decide)
theorem aw4b : lws aw14 3 6 = [] := lws_of (by decide) (by decide) (by decide)
theorem aw4c : lowsQ aw14 0 9 3 [(0, 0, 1), (2, 1, 3), (7, 3, 4)] = true := by
  unfold lowsQ
  rw [lws_of (S := [(0, 0, 1), (2, 1, 3), (7, 3, 4), (2, 5, 2)]) (by decide) (by decide) (by decide)]
  rfl
theorem aw4d : lowsQ aw14 2 2 5 [(2, 1, 3), (2, 5, 2)] = true := by
  unfold lowsQ
  rw [lws_of (S := [(2, 1, 3), (2, 5, 2)]) (by decide) (by decide) (by decide)]
  rfl
theorem aw4e : lowsQ aw14 0 9 0 [] = true := by
  unfold lowsQ
  rw [lws_of (S := [(0, 0, 1), (2, 1, 3), (7, 3, 4), (2, 5, 2)]) (by decide) (by decide) (by decide)]
  rfl
theorem aw4f : lowsQ aw14d 1 9 1 [(7, 3, 4)] = true := by
  unfold lowsQ
  rw [lws_of (S := [(7, 3, 4), (2, 5, 2)]) (by decide) (by decide) (by decide)]
  rfl
theorem aw4g : (aw14.filter fun q => decide (q ≠ (2, 1, 3))) = aw14d := by decide
theorem aw4h : decide (((2, 1, 3) : Pt) ∈ aw14) = true := by decide

set_option maxRecDepth 100000 in
set_option maxHeartbeats 4000000 in
theorem awake14 (w : World) : Calls Tryz.prog 31 #[] w fun e w' => e = .returned (.bool true) ∧ Below w.heap.size w w' := by
  have L := Lib.hid (RdK.lit (sz := 3) ePt_len)
  go_enter Tryz.func31, Tryz.ntmps31
  go_wp2_with fail
  have B0 : Below w.heap.size w (w.alloc (.cells #[.int .i64 0, .int .i64 0, .int .u32 1, .int .i64 2, .int .i64 5, .int .u32 2, .int .i64 2, .int .i64 1, .int .u32 3, .int .i64 7, .int .i64 3, .int .u32 4] 34)) := (Below.refl _ _).alloc (Nat.le_refl _) _
  have RL := L.out w 34 aw14 w.heap.size rfl
  have c := lBuild _ 4 aw14 _ RL (by decide) (by unfold wfN; decide) (by decide)
  simp only [List.flatMap_cons, List.flatMap_nil, List.append_nil, ePt, List.cons_append, List.nil_append, List.length_cons, List.length_nil, Nat.zero_add, Nat.reduceAdd] at c
  refine c.mono ?_
  rintro e w1 ⟨tb, rfl, hT1, hb1⟩
  have X0 : (w.alloc (.cells #[.int .i64 0, .int .i64 0, .int .u32 1, .int .i64 2, .int .i64 5, .int .u32 2, .int .i64 2, .int .i64 1, .int .u32 3, .int .i64 7, .int .i64 3, .int .u32 4] 34)).heap[w.heap.size]? = some (.cells #[.int .i64 0, .int .i64 0, .int .u32 1, .int .i64 2, .int .i64 5, .int .u32 2, .int .i64 2, .int .i64 1, .int .u32 3, .int .i64 7, .int .i64 3, .int .u32 4] 34 (0, 0)) := lit0 w _
  have X1 := (hb1.block w.heap.size (Array.getElem?_eq_some_iff.1 X0).1).trans X0
  have B1 : Below w.heap.size w w1 := B0.trans (hb1.mono (by simp))
  have HT1 := Lib.hid hT1
  have HX1 := Lib.hid X1
  have HB1 := Lib.hid B1
  have hlo : w.heap.size ≤ w.heap.size + 1 := by omega
  clear c B0 RL hb1 hT1 X0 X1 B1
  go_wp2_with fail
  have c := lLowest HT1.out 1 9
  rw [aw4a] at c
  refine c.mono ?_
  rintro e w2 ⟨⟨p, hp, c2, rfl, -⟩, hb2⟩
  obtain rfl : p = (2, 1, 3) := hp
  simp only [List.head?_cons, Option.isSome_some]
  obtain ⟨w3, ew3⟩ : ∃ w3, w3 = w2.alloc (.cells #[.int .i64 2, .int .i64 1, .int .u32 3] 34) := ⟨_, rfl⟩
  have hb3 : Below w2.heap.size w2 w3 := by rw [ew3]; exact (Below.refl _ _).alloc (Nat.le_refl _) _
  have hx3 : w3.heap[w2.heap.size]? = some (obP (2, 1, 3)) := by rw [ew3]; exact lit0 w2 _
  have hb13 := hb2.trans (hb3.mono hb2.size)
  have HT3 := Lib.hid (HT1.out.below hb13 HT1.out.hi_le)
  have HB3 := Lib.hid (HB1.out.trans (hb13.mono HB1.out.size))
  have HX3 := Lib.hid ((hb13.block w.heap.size (Array.getElem?_eq_some_iff.1 HX1.out).1).trans HX1.out)
  have HP3 := Lib.hid hx3
  have EW := Lib.hid ew3
  clear hb2 hb3 hx3 hb13 ew3 HT1 HX1 HB1 c
  go_upto_region 4 with fail
  rw [← EW.out]
  clear EW
  go_wp2_with fail
  have c := lLowest HT3.out 3 6
  rw [aw4b] at c
  refine c.mono ?_
  rintro e w4 ⟨⟨p, hp, c4, rfl, -⟩, hb4⟩
  obtain rfl : p = (0, 0, 0) := hp
  simp only [List.head?_nil, Option.isSome_none]
  obtain ⟨w5, ew5⟩ : ∃ w5, w5 = w4.alloc (.cells #[.int .i64 0, .int .i64 0, .int .u32 0] 34) := ⟨_, rfl⟩
  have hb5 : Below w4.heap.size w4 w5 := by rw [ew5]; exact (Below.refl _ _).alloc (Nat.le_refl _) _
  have hb35 := hb4.trans (hb5.mono hb4.size)
  have HT5 := Lib.hid (HT3.out.below hb35 HT3.out.hi_le)
  have HB5 := Lib.hid (HB3.out.trans (hb35.mono HB3.out.size))
  have X5 := (hb35.block w.heap.size (Array.getElem?_eq_some_iff.1 HX3.out).1).trans HX3.out
  have P5 := (hb35.block w2.heap.size (Array.getElem?_eq_some_iff.1 HP3.out).1).trans HP3.out
  obtain ⟨y0, y1, y2⟩ := obP_cells P5
  simp only at y0 y1 y2
  have HX5 := Lib.hid X5
  have EW := Lib.hid ew5
  have z0 : w5.cell? ⟨w.heap.size, 0, none⟩ = some (.int .i64 0) := by simp [World.cell?, X5]
  have z1 : w5.cell? ⟨w.heap.size, 1, none⟩ = some (.int .i64 0) := by simp [World.cell?, X5]
  have z2 : w5.cell? ⟨w.heap.size, 2, none⟩ = some (.int .u32 1) := by simp [World.cell?, X5]
  have z6 : w5.cell? ⟨w.heap.size, 6, none⟩ = some (.int .i64 2) := by simp [World.cell?, X5]
  have z7 : w5.cell? ⟨w.heap.size, 7, none⟩ = some (.int .i64 1) := by simp [World.cell?, X5]
  have z8 : w5.cell? ⟨w.heap.size, 8, none⟩ = some (.int .u32 3) := by simp [World.cell?, X5]
  have z9 : w5.cell? ⟨w.heap.size, 9, none⟩ = some (.int .i64 7) := by simp [World.cell?, X5]
  have z10 : w5.cell? ⟨w.heap.size, 10, none⟩ = some (.int .i64 3) := by simp [World.cell?, X5]
  have z11 : w5.cell? ⟨w.heap.size, 11, none⟩ = some (.int .u32 4) := by simp [World.cell?, X5]
  clear hb4 hb5 hb35 ew5 HT3 HX3 HB3 c HP3 X5 P5
  go_upto_region 5 with fail
  rw [← EW.out]
  clear EW
  have g0 := cell_belowW y0
  have g1 := cell_belowW y1
  have g2 := cell_belowW y2
  have g3 := cell_belowW z0
  have g4 := cell_belowW z1
  have g5 := cell_belowW z2
  have g6 := cell_belowW z6
  have g7 := cell_belowW z7
  have g8 := cell_belowW z8
  have g9 := cell_belowW z9
  have g10 := cell_belowW z10
  have g11 := cell_belowW z11
  refine wp_region_head (fun W => ∃ p : BelowW w5, W = p.W) [27, 28, 29, 30, 31, 32, 33, 34, 35, 36, 37, 38, 39, 40, 41, 42, 43, 44, 45, 46, 47] [(0, false), (1, false), (2, false), (3, false), (4, false), (5, false), (6, false), (7, true), (8, false), (9, false), (10, true), (11, false), (12, false), (13, false), (14, false), (15, false), (16, false), (17, false), (18, false), (19, false), (20, true), (21, false), (22, false), (23, true), (24, false), (25, false), (26, true)] (by kernel_rfl) (by kernel_rfl) (fun _ _ d _ _ h => by cases d <;> exact h) ⟨⟨_, (Below.refl _ _).drew⟩, rfl⟩ 21 rfl (by kernel_rfl) ?_
  simp only [pickB, List.filterMap_cons, List.filterMap_nil, List.getElem?_toArray, List.getElem?_cons_succ, List.getElem?_cons_zero, Option.map_some]
  repeat (refine wpHd_step (fun K hK => ?_); go_simp; first | (refine hK _ ?_; clear hK K) | (apply Exists.intro; refine ⟨fun _ => ?_, hK _ ?_⟩; rfl; clear hK K))
  refine wpHd_nil ?_
  refine wpAnyT_ready [27] (by kernel_rfl) (by simp) ?_
  refine AllReadyT.cons rfl (fun K hK => ?_) AllReadyT.nil
  go_simp
  refine hK _ _ (fun _ h => absurd (by simp) h) ?_
  clear hK K g0 g1 g2 g3 g4 g5 g6 g7 g8 g9 g10 g11
  refine wpAnyT_ready [28] (by kernel_rfl) (by simp) ?_
  refine AllReadyT.cons rfl (fun K hK => ?_) AllReadyT.nil
  have e6 : Below w5.heap.size w5 (w5.alloc (.cells #[.int .i64 0, .int .i64 0, .int .u32 1, .int .i64 2, .int .i64 1, .int .u32 3, .int .i64 7, .int .i64 3, .int .u32 4] 34)).drew := ((Below.refl _ _).alloc (Nat.le_refl _) _).drew
  have c := lows14 (HT5.out.below e6 HT5.out.hi_le) 0 9 3 (some ⟨w5.heap.size, 0, none⟩) [(0, 0, 1), (2, 1, 3), (7, 3, 4)] 3 3 rfl ((L.out w5 34 [(0, 0, 1), (2, 1, 3), (7, 3, 4)] w5.heap.size rfl).below ((Below.refl _ _).drew)) (by decide)
  rw [aw4c] at c
  refine step_callG ent_lows14 rfl _ _ rfl (vals := #[.pointer (some ⟨tb, 0, none⟩), .int .i64 0, .int .i64 9, .int .i64 3, .slice (some ⟨w5.heap.size, 0, none⟩) 3 3]) rfl c ?_
  rintro e w7 ⟨rfl, hb7⟩
  refine ⟨_, rfl, hK _ _ (fun _ h => absurd (by simp) h) ?_⟩
  clear hK K c
  have hb57 := e6.trans (hb7.mono e6.size)
  have HT7 := Lib.hid (HT5.out.below hb57 HT5.out.hi_le)
  have HB7 := Lib.hid (HB5.out.trans (hb57.mono HB5.out.size))
  have X7 := (hb57.block w.heap.size (Array.getElem?_eq_some_iff.1 HX5.out).1).trans HX5.out
  have HX7 := Lib.hid X7
  have g3 := cell_belowW (show w7.cell? ⟨w.heap.size, 3, none⟩ = some (.int .i64 2) by simp [World.cell?, X7])
  have g4 := cell_belowW (show w7.cell? ⟨w.heap.size, 4, none⟩ = some (.int .i64 5) by simp [World.cell?, X7])
  have g5 := cell_belowW (show w7.cell? ⟨w.heap.size, 5, none⟩ = some (.int .u32 2) by simp [World.cell?, X7])
  have g6 := cell_belowW (show w7.cell? ⟨w.heap.size, 6, none⟩ = some (.int .i64 2) by simp [World.cell?, X7])
  have g7 := cell_belowW (show w7.cell? ⟨w.heap.size, 7, none⟩ = some (.int .i64 1) by simp [World.cell?, X7])
  have g8 := cell_belowW (show w7.cell? ⟨w.heap.size, 8, none⟩ = some (.int .u32 3) by simp [World.cell?, X7])
  clear e6 hb7 hb57 HT5 HB5 HX5 X7 y0 y1 y2 z0 z1 z2 z6 z7 z8 z9 z10 z11
  refine wpAnyT_turn (fun W => ∃ p : BelowW w7, W = p.W) [39, 40, 41, 42, 43, 44, 45, 46, 47] (by kernel_rfl) ?_
  refine wpAnyT_next [(29, false), (30, false), (31, false), (32, false), (33, false), (34, false), (35, true), (36, false), (37, false), (38, true)] (by kernel_rfl) (fun _ _ d _ _ h => by cases d <;> exact h) ⟨⟨_, Below.refl _ _⟩, rfl⟩ (by kernel_rfl) (by kernel_rfl) rfl ?_
  simp only [pickB, List.filterMap_cons, List.filterMap_nil, List.getElem?_toArray, List.getElem?_cons_succ, List.getElem?_cons_zero, Option.map_some]
  repeat (refine wpHd_step (fun K hK => ?_); go_simp; first | (refine hK _ ?_; clear hK K) | (apply Exists.intro; refine ⟨fun _ => ?_, hK _ ?_⟩; rfl; clear hK K))
  refine wpHd_nil ?_
  refine wpAnyT_ready [39] (by kernel_rfl) (by simp) ?_
  refine AllReadyT.cons rfl (fun K hK => ?_) AllReadyT.nil
  go_simp
  refine hK _ _ (fun _ h => absurd (by simp) h) ?_
  clear hK K g3 g4 g5 g6 g7 g8
  refine wpAnyT_ready [40] (by kernel_rfl) (by simp) ?_
  refine AllReadyT.cons rfl (fun K hK => ?_) AllReadyT.nil
  have e8 : Below w7.heap.size w7 (w7.alloc (.cells #[.int .i64 2, .int .i64 1, .int .u32 3, .int .i64 2, .int .i64 5, .int .u32 2] 34)) := (Below.refl _ _).alloc (Nat.le_refl _) _
  have c := lows14 (HT7.out.below e8 HT7.out.hi_le) 2 2 5 (some ⟨w7.heap.size, 0, none⟩) [(2, 1, 3), (2, 5, 2)] 2 2 rfl (L.out w7 34 [(2, 1, 3), (2, 5, 2)] w7.heap.size rfl) (by decide)
  rw [aw4d] at c
  refine step_callG ent_lows14 rfl _ _ rfl (vals := #[.pointer (some ⟨tb, 0, none⟩), .int .i64 2, .int .i64 2, .int .i64 5, .slice (some ⟨w7.heap.size, 0, none⟩) 2 2]) rfl c ?_
  rintro e w9 ⟨rfl, hb9⟩
  refine ⟨_, rfl, hK _ _ (fun _ h => absurd (by simp) h) ?_⟩
  clear hK K c
  have hb79 := e8.trans (hb9.mono e8.size)
  have HT9 := Lib.hid (HT7.out.below hb79 HT7.out.hi_le)
  have HB9 := Lib.hid (HB7.out.trans (hb79.mono HB7.out.size))
  have HX9 := Lib.hid ((hb79.block w.heap.size (Array.getElem?_eq_some_iff.1 HX7.out).1).trans HX7.out)
  clear e8 hb9 hb79 HT7 HB7 HX7
  refine wpAnyT_line [41, 42, 43, 44, 45, 46, 47] _ _ _ (by kernel_rfl) ?_
  simp only [pick, List.filterMap_cons, List.filterMap_nil, List.getElem?_toArray, List.getElem?_cons_succ, List.getElem?_cons_zero]
  go_wp2_with fail
  have c := lows14 HT9.out 0 9 0 none [] 0 0 rfl .nil (by decide)
  rw [aw4e] at c
  refine c.mono ?_
  rintro e w10 ⟨rfl, hb10⟩
  have HT10 := Lib.hid (HT9.out.below hb10 HT9.out.hi_le)
  have HB10 := Lib.hid (HB9.out.trans (hb10.mono HB9.out.size))
  have X10 := (hb10.block w.heap.size (Array.getElem?_eq_some_iff.1 HX9.out).1).trans HX9.out
  have HX10 := Lib.hid X10
  have z6 : w10.cell? ⟨w.heap.size, 6, none⟩ = some (.int .i64 2) := by simp [World.cell?, X10]
  have z7 : w10.cell? ⟨w.heap.size, 7, none⟩ = some (.int .i64 1) := by simp [World.cell?, X10]
  have z8 : w10.cell? ⟨w.heap.size, 8, none⟩ = some (.int .u32 3) := by simp [World.cell?, X10]
  clear hb10 c HT9 HB9 HX9 X10
  go_wp2_with fail
  have c := lDrop HT10.out (2, 1, 3)
  rw [aw4h, aw4g] at c
  refine c.mono ?_
  rintro e w11 ⟨rfl, hT11, hk11⟩
  have HT11 := Lib.hid hT11
  have hlow : ∀ k, (w.alloc (.cells #[.int .i64 0, .int .i64 0, .int .u32 1, .int .i64 2, .int .i64 5, .int .u32 2, .int .i64 2, .int .i64 1, .int .u32 3, .int .i64 7, .int .i64 3, .int .u32 4] 34)).heap.size ≤ k → w.heap.size < k := fun k h => by simp at h; omega
  have X11 := blkK hk11 HX10.out (fun h => by have := hlow _ h.1; omega)
  have HB11 := Lib.hid (HB10.out.trans (hk11.toBelow HB10.out.size (fun k h => Nat.le_of_lt (hlow _ h.1))))
  have z9 : w11.cell? ⟨w.heap.size, 9, none⟩ = some (.int .i64 7) := by simp [World.cell?, X11]
  have z10 : w11.cell? ⟨w.heap.size, 10, none⟩ = some (.int .i64 3) := by simp [World.cell?, X11]
  have z11 : w11.cell? ⟨w.heap.size, 11, none⟩ = some (.int .u32 4) := by simp [World.cell?, X11]
  clear c hT11 hk11 HT10 HB10 HX10 X11 hlow z6 z7 z8
  go_wp2_with fail
  have e12 : Below w11.heap.size w11 (w11.alloc (.cells #[.int .i64 7, .int .i64 3, .int .u32 4] 34)) := (Below.refl _ _).alloc (Nat.le_refl _) _
  have c := lows14 (HT11.out.below e12 HT11.out.hi_le) 1 9 1 (some ⟨w11.heap.size, 0, none⟩) [(7, 3, 4)] 1 1 rfl (L.out w11 34 [(7, 3, 4)] w11.heap.size rfl) (by decide)
  rw [aw4f] at c
  refine c.mono ?_
  rintro e w13 ⟨rfl, hb13⟩
  have HB13 := Lib.hid (HB11.out.trans ((e12.trans (hb13.mono e12.size)).mono HB11.out.size))
  clear c e12 hb13 HT11 HB11
  go_wp2
  go_ret
  exact ⟨rfl, HB13.out⟩
end Go.Proofs.YtggfdlanobndjaaGreat
