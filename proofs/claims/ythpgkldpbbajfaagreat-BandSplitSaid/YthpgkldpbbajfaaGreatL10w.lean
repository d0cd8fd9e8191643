/- gridironlaw10: asked, awake. -/
import Derived.Test.YthpgkldpbbajfaaGreatL10s
import Derived.Test.YthpgkldpbbajfaaGreatQ8
import Derived.Test.YthpgkldpbbajfaaGreatQ7
namespace Go.Proofs.YthpgkldpbbajfaaGreat
open Go.RowKit Go.Maps
attribute [local irreducible] wpQuiet
attribute [local go_sem] Oper.still1
set_option linter.unusedSimpArgs false
set_option linter.unusedVariables false

theorem BanAt.few {w : World} {lo hi tb n0 : Nat} {l : List Pt} (h : BanAt w lo hi tb n0 l) : l.length ≤ n0 ∧ n0 ≤ 20000 := h.few2
theorem ent_r10has : ∀ args w, (callFunc 85 args).run Tryz.prog w = .ok (.enter 85 args) w := enters_of Tryz.func85 (by kernel_rfl) rfl
theorem ent_has10 : ∀ args w, (callFunc 84 args).run Tryz.prog w = .ok (.enter 84 args) w := enters_of Tryz.func84 (by kernel_rfl) rfl

set_option maxRecDepth 100000 in
set_option maxHeartbeats 4000000 in
theorem asked10 (a : Option Addr) (l : List Pt) (n c : Nat) (ab : Option Addr) (P : List Bx) (np cp : Nat) {lo hi tb n0 : Nat} (w : World) (hn : l.length = n) (h : RdK ePt 3 w a l) (hT : BanAt w lo hi tb n0 l) (hp : P.length = np) (hB : RdK eBx 5 w ab P) (hnp : np ≤ 1000000) :
    Calls Tryz.prog 39 #[.pointer (some ⟨tb, 0, none⟩), .slice a n c, .slice ab np cp] w fun e w' => e = .returned (.bool true) ∧ Below w.heap.size w w' := by
  subst hn hp
  have few := hT.few
  have HT := Lib.hid hT
  have HR := Lib.hid h
  have HB := Lib.hid hB
  have LN := Lib.hid (fun W (hb : Below w.heap.size w W) => bLen (hT.below hb hT.hi_le))
  clear hT h hB
  go_enter Tryz.func39, Tryz.ntmps39
  go_wp2
  go_loopw [11] (fun kv wr => ∃ k : Nat, kv = .int .i64 k ∧ k ≤ P.length ∧ Hid (Below w.heap.size w wr)) (fun kv _ => P.length - (intOf kv).toNat)
  case atStart => exact ⟨0, rfl, Nat.zero_le _, Lib.hid (Below.refl _ _)⟩
  case round =>
    obtain ⟨k, rfl, hk, HBK⟩ := hrel
    by_cases hkl : k < P.length
    · have hb := HBK.out
      obtain ⟨b9, off9, ea, hbl, hcs⟩ := (HB.out.below hb).get (by omega)
      have x0 := hcs k hkl 0 (by omega)
      have x1 := hcs k hkl 1 (by omega)
      have x2 := hcs k hkl 2 (by omega)
      have x3 := hcs k hkl 3 (by omega)
      have x4 := hcs k hkl 4 (by omega)
      simp only [eBx, List.getElem?_cons_zero, List.getElem?_cons_succ, Nat.add_zero] at x0 x1 x2 x3 x4
      have EA := Lib.hid ea
      clear hcs ea
      generalize P[k] = q at *
      obtain ⟨q1, q2, q3, q4, q5⟩ := q
      simp only at x0 x1 x2 x3 x4
      have hkl2 : (k : Int) < (P.length : Int) := by omega
      obtain rfl := EA.out
      clear EA
      obtain ⟨w6, ew6⟩ : ∃ w6, w6 = wr.alloc (.cells #[.int .i64 q1, .int .i64 q2, .int .i64 q3, .int .i64 q4, .int .u32 q5] 51) := ⟨_, rfl⟩
      have b6 : Below wr.heap.size wr w6 := by rw [ew6]; exact (Below.refl _ _).alloc (Nat.le_refl _) _
      have X6 : w6.heap[wr.heap.size]? = some (objBx (q1, q2, q3, q4, q5)) := by rw [ew6]; exact lit0 _ _
      have B6 := hb.trans (b6.mono hb.size)
      obtain ⟨y0, y1, y2, y3, y4⟩ := objBx_cells X6
      simp only at y0 y1 y2 y3 y4
      have HB6 := Lib.hid B6
      clear b6 hb B6 X6
      go_upto_region 4 with fail
      rw [← ew6]
      clear ew6 x0 x1 x2 x3 x4
      have g0 := cell_belowW y0
      have g1 := cell_belowW y1
      have g2 := cell_belowW y2
      have g3 := cell_belowW y3
      have g4 := cell_belowW y4
      refine wp_region_head (fun W => ∃ p : BelowW w6, W = p.W) [5, 6] [(0, false), (1, true), (2, false), (3, true)] (by kernel_rfl) (by kernel_rfl) (fun _ _ d _ _ h => by cases d <;> exact h) ⟨⟨_, (Below.refl _ _).drew⟩, rfl⟩ 3 rfl (by kernel_rfl) ?_
      simp only [pickB, List.filterMap_cons, List.filterMap_nil, List.getElem?_toArray, List.getElem?_cons_succ, List.getElem?_cons_zero, Option.map_some]
      repeat (refine wpHd_step (fun K hK => ?_); go_simp; first | (refine hK _ ?_; clear hK K) | (apply Exists.intro; refine ⟨fun _ => ?_, hK _ ?_⟩; rfl; clear hK K))
      refine wpHd_nil ?_
      refine wpAnyT_ready [4] (by kernel_rfl) (by simp) ?_
      refine AllReadyT.cons rfl (fun K hK => ?_) AllReadyT.nil
      have bd : Below w.heap.size w w6.drew := HB6.out.drew
      refine step_call ent_r10has rfl _ _ rfl (vals := #[.slice a l.length c, .agg #[.int .i64 q1, .int .i64 q2, .int .i64 q3, .int .i64 q4, .int .u32 q5]]) rfl (ref10_has a l l.length c w6.drew rfl (HR.out.below bd) (by omega) q1 q2 q3 q4 q5) ?_
      rintro e w7 ⟨v7, rfl, hown7, hb7⟩
      have b67 : Below w6.heap.size w6 w7 := ((Below.refl w6.heap.size w6).drew).trans hb7
      refine ⟨_, rfl, hK _ _ (fun _ _ => ⟨⟨_, b67⟩, rfl⟩) ?_⟩
      clear hK K
      have B7 := HB6.out.trans (b67.mono HB6.out.size)
      obtain ⟨a7, k7, rfl, -, -, hr7⟩ := Rd.of_owns hown7
      refine wpAnyT_ready [5] (by kernel_rfl) (by simp) ?_
      refine AllReadyT.cons rfl (fun K hK => ?_) AllReadyT.nil
      have hgl : (hasB l q1 q2 q3 q4).length ≤ 20000 := by rw [hasB_len]; exact Nat.le_trans (List.length_filter_le _ _) (by omega)
      have hq : hasQ l q1 q2 q3 q4 (hasB l q1 q2 q3 q4) = true := by simp [hasQ]
      have ch := has10 (HT.out.below B7 HT.out.hi_le) q1 q2 q3 q4 q5 a7 (hasB l q1 q2 q3 q4) _ k7 rfl hr7 (by omega)
      rw [hq] at ch
      refine step_call ent_has10 rfl _ _ rfl (vals := #[.pointer (some ⟨tb, 0, none⟩), .agg #[.int .i64 q1, .int .i64 q2, .int .i64 q3, .int .i64 q4, .int .u32 q5], .slice a7 (hasB l q1 q2 q3 q4).length k7]) rfl ch ?_
      rintro e w8 ⟨rfl, hb8⟩
      refine ⟨_, rfl, hK _ _ (fun _ h => absurd (by simp) h) ?_⟩
      clear hK K
      refine wpAnyT_line [6] _ _ _ (by kernel_rfl) ?_
      simp only [pick, List.filterMap_cons, List.filterMap_nil, List.getElem?_toArray, List.getElem?_cons_succ, List.getElem?_cons_zero]
      have HB8 := Lib.hid (B7.trans (hb8.mono B7.size))
      clear hb8 B7 hr7 hown7 hb7 b67 ch hq g0 g1 g2 g3 g4 y0 y1 y2 y3 y4 bd
      go_wp2
      exact ⟨⟨k + 1, by go_num, by omega, HB8⟩, by simp [intOf]; omega⟩
    · obtain rfl : k = P.length := by omega
      go_wp2_with fail
      refine (LN.out wr HBK.out).mono ?_
      rintro e w9 ⟨rfl, rfl⟩
      go_wp2
      go_ret
      exact ⟨rfl, HBK.out⟩

theorem awH6 : hasQ [(0, 0, 1), (2, 5, 2), (2, 1, 3), (7, 3, 4)] 0 2 1 5 [2, 3] = true := by unfold hasQ; rw [awH1]; rfl
theorem awH7 : hasQ [(0, 0, 1), (2, 5, 2), (2, 1, 3), (7, 3, 4)] 2 2 1 1 [3] = true := by
  unfold hasQ hasB
  rw [show ids (([(0, 0, 1), (2, 5, 2), (2, 1, 3), (7, 3, 4)] : List Pt).filter (inB 2 2 1 1)) = [3] by decide, srtI_of (S := [3]) (by decide) (List.Perm.refl _)]
  rfl
theorem awH8 : hasQ [(0, 0, 1), (2, 5, 2), (2, 1, 3), (7, 3, 4)] 3 1 0 9 [] = true := by
  unfold hasQ hasB
  rw [show ids (([(0, 0, 1), (2, 5, 2), (2, 1, 3), (7, 3, 4)] : List Pt).filter (inB 3 1 0 9)) = [] by decide, srtI_of (S := []) (by decide) (List.Perm.refl _)]
  rfl
theorem awH9 : hasQ [(0, 0, 1), (2, 5, 2), (7, 3, 4)] 0 2 1 5 [2] = true := by unfold hasQ; rw [awH2]; rfl

set_option maxRecDepth 100000 in
set_option maxHeartbeats 4000000 in
theorem awake10 (w : World) : Calls Tryz.prog 34 #[] w fun e w' => e = .returned (.bool true) ∧ Below w.heap.size w w' := by
  have L := Lib.hid (RdK.lit (sz := 3) ePt_len)
  go_enter Tryz.func34, Tryz.ntmps34
  go_wp2_with fail
  have B0 : Below w.heap.size w (w.alloc (.cells #[.int .i64 0, .int .i64 0, .int .u32 1, .int .i64 2, .int .i64 5, .int .u32 2, .int .i64 2, .int .i64 1, .int .u32 3, .int .i64 7, .int .i64 3, .int .u32 4] 34)) := (Below.refl _ _).alloc (Nat.le_refl _) _
  have RL := L.out w 34 [(0, 0, 1), (2, 5, 2), (2, 1, 3), (7, 3, 4)] w.heap.size rfl
  have c := bBuild _ 4 [(0, 0, 1), (2, 5, 2), (2, 1, 3), (7, 3, 4)] _ RL (by decide) (by unfold wfN; decide) (by decide)
  simp only [List.flatMap_cons, List.flatMap_nil, List.append_nil, ePt, List.cons_append, List.nil_append, List.length_cons, List.length_nil, Nat.zero_add, Nat.reduceAdd] at c
  refine c.mono ?_
  rintro e w1 ⟨tb, rfl, hT1, hb1⟩
  have B1 : Below w.heap.size w w1 := B0.trans (hb1.mono (by simp))
  have hs1 : w.heap.size + 1 ≤ w1.heap.size := by have := hb1.size; simpa using this
  clear c B0 RL hb1
  go_wp2_with fail
  obtain ⟨w2, ew2⟩ : ∃ w2, w2 = w1.alloc (.cells #[.int .i64 0, .int .i64 2, .int .i64 1, .int .i64 5, .int .u32 0] 51) := ⟨_, rfl⟩
  have hb2 : Below w1.heap.size w1 w2 := by rw [ew2]; exact (Below.refl _ _).alloc (Nat.le_refl _) _
  have hx2 : w2.heap[w1.heap.size]? = some (.cells #[.int .i64 0, .int .i64 2, .int .i64 1, .int .i64 5, .int .u32 0] 51 (0, 0)) := by rw [ew2]; exact lit0 _ _
  have hs2 : w1.heap.size < w2.heap.size := (Array.getElem?_eq_some_iff.1 hx2).1
  have hT2 := hT1.below hb2 (Nat.le_refl _)
  try rw [← ew2]
  clear ew2
  have c := bCount hT2 0 7 0 3 0
  rw [awH3] at c
  refine c.mono ?_
  rintro e w4 ⟨⟨c4, rfl, -⟩, hb4⟩
  have B4 : Below w1.heap.size w1 w4 := hb2.trans (hb4.mono hb2.size)
  have hx4 := (hb4.block _ hs2).trans hx2
  have hs4 : w1.heap.size < w4.heap.size := by have := hb4.size; omega
  clear c hT2 hx2 hb4 hb2 hs2
  have y0 : w4.cell? ⟨w1.heap.size, 0, none⟩ = some (.int .i64 0) := by simp [World.cell?, hx4]
  have y1 : w4.cell? ⟨w1.heap.size, 1, none⟩ = some (.int .i64 2) := by simp [World.cell?, hx4]
  have y2 : w4.cell? ⟨w1.heap.size, 2, none⟩ = some (.int .i64 1) := by simp [World.cell?, hx4]
  have y3 : w4.cell? ⟨w1.heap.size, 3, none⟩ = some (.int .i64 5) := by simp [World.cell?, hx4]
  have y4 : w4.cell? ⟨w1.heap.size, 4, none⟩ = some (.int .u32 0) := by simp [World.cell?, hx4]
  go_wp2_with fail
  have q4 : Below w4.heap.size w4 (w4.alloc (.cells #[.int .u32 2, .int .u32 3] 32)) := (Below.refl _ _).alloc (Nat.le_refl _) _
  have c := has10 (hT1.below (B4.trans (q4.mono B4.size)) (Nat.le_refl _)) 0 2 1 5 0 (some ⟨w4.heap.size, 0, none⟩) [2, 3] 2 2 rfl (Rd.lit (enc := Value.int .u32) w4 32 [2, 3] _ rfl) (by decide)
  rw [awH6] at c
  refine c.mono ?_
  rintro e w5 ⟨rfl, hb5⟩
  have B45 : Below w4.heap.size w4 w5 := q4.trans (hb5.mono q4.size)
  have B5 := B4.trans (B45.mono B4.size)
  have hx5 := (B45.block _ hs4).trans hx4
  have hs5 : w1.heap.size < w5.heap.size := (Array.getElem?_eq_some_iff.1 hx5).1
  clear c q4 hb5 B45 B4 hx4 hs4 y0 y1 y2 y3 y4
  go_wp2_with fail
  have q5 : Below w5.heap.size w5 (w5.alloc (.cells #[.int .u32 3] 32)) := (Below.refl _ _).alloc (Nat.le_refl _) _
  have c := has10 (hT1.below (B5.trans (q5.mono B5.size)) (Nat.le_refl _)) 2 2 1 1 0 (some ⟨w5.heap.size, 0, none⟩) [3] 1 1 rfl (Rd.lit (enc := Value.int .u32) w5 32 [3] _ rfl) (by decide)
  rw [awH7] at c
  refine c.mono ?_
  rintro e w6 ⟨rfl, hb6⟩
  have B56 : Below w5.heap.size w5 w6 := q5.trans (hb6.mono q5.size)
  have B6 := B5.trans (B56.mono B5.size)
  have hx6 := (B56.block _ hs5).trans hx5
  have hs6 : w1.heap.size < w6.heap.size := (Array.getElem?_eq_some_iff.1 hx6).1
  clear c q5 hb6 B56 B5 hx5 hs5
  go_wp2_with fail
  have c := has10 (hT1.below B6 (Nat.le_refl _)) 3 1 0 9 0 none [] 0 0 rfl .nil (by decide)
  rw [awH8] at c
  refine c.mono ?_
  rintro e w7 ⟨rfl, hb7⟩
  have B7 := B6.trans (hb7.mono B6.size)
  have hx7 := (hb7.block _ hs6).trans hx6
  have hs7 : w1.heap.size < w7.heap.size := (Array.getElem?_eq_some_iff.1 hx7).1
  have hT7 := hT1.below B7 (Nat.le_refl _)
  clear c hb7 B6 hx6 hs6 hT1
  go_wp2_with fail
  have c := bDrop hT7 (2, 1, 3)
  rw [awH5, awH4] at c
  refine c.mono ?_
  rintro e w8 ⟨rfl, hT8, hk8⟩
  have B8 : Below w.heap.size w w8 := (B1.trans (B7.mono B1.size)).trans (hk8.toBelow (Nat.le_trans B1.size (Nat.le_of_lt hs7)) (fun k hk => by have := hk.1; simp at this; omega))
  have hx8 := (hk8.block _ hs7 (fun h => Nat.lt_irrefl _ h.2)).trans hx7
  have y0 : w8.cell? ⟨w1.heap.size, 0, none⟩ = some (.int .i64 0) := by simp [World.cell?, hx8]
  have y1 : w8.cell? ⟨w1.heap.size, 1, none⟩ = some (.int .i64 2) := by simp [World.cell?, hx8]
  have y2 : w8.cell? ⟨w1.heap.size, 2, none⟩ = some (.int .i64 1) := by simp [World.cell?, hx8]
  have y3 : w8.cell? ⟨w1.heap.size, 3, none⟩ = some (.int .i64 5) := by simp [World.cell?, hx8]
  have y4 : w8.cell? ⟨w1.heap.size, 4, none⟩ = some (.int .u32 0) := by simp [World.cell?, hx8]
  clear c hT7 hx7 hx8 hk8 B7 B1
  go_wp2_with fail
  have q8 : Below w8.heap.size w8 (w8.alloc (.cells #[.int .u32 2] 32)) := (Below.refl _ _).alloc (Nat.le_refl _) _
  have c := has10 (hT8.below q8 hT8.hi_le) 0 2 1 5 0 (some ⟨w8.heap.size, 0, none⟩) [2] 1 1 rfl (Rd.lit (enc := Value.int .u32) w8 32 [2] _ rfl) (by decide)
  rw [awH9] at c
  refine c.mono ?_
  rintro e w9 ⟨rfl, hb9⟩
  have B9 := B8.trans ((q8.trans (hb9.mono q8.size)).mono B8.size)
  clear c q8 hb9 hT8 y0 y1 y2 y3 y4 B8
  go_wp2_with fail
  go_ret
  exact ⟨rfl, B9⟩
end Go.Proofs.YthpgkldpbbajfaaGreat
