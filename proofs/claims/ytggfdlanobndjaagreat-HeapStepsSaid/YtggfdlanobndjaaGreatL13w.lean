/- gridironlaw13: asked, awake. -/
import Derived.Test.YtggfdlanobndjaaGreatL13s
import Derived.Test.YtggfdlanobndjaaGreatLiftS
import Derived.Test.YtggfdlanobndjaaGreatQ8
import Derived.Test.YtggfdlanobndjaaGreatQ7
namespace Go.Proofs.YtggfdlanobndjaaGreat
open Go.RowKit Go.Maps
attribute [local irreducible] wpQuiet
attribute [local go_sem] Oper.still1
set_option linter.unusedSimpArgs false
set_option linter.unusedVariables false

theorem ent_r13three : ∀ args w, (callFunc 52 args).run Tryz.prog w = .ok (.enter 52 args) w := enters_of Tryz.func52 (by kernel_rfl) rfl
theorem ent_three13 : ∀ args w, (callFunc 39 args).run Tryz.prog w = .ok (.enter 39 args) w := enters_of Tryz.func39 (by kernel_rfl) rfl
/-- three numbers in a block -/
def objSd (p : Sd) : Obj := .cells #[.int .i64 p.1, .int .i64 p.2.1, .int .i64 p.2.2] 50 (0, 0)
theorem objSd_cells {W : World} {b : Nat} {p : Sd} (h : W.heap[b]? = some (objSd p)) : W.cell? ⟨b, 0, none⟩ = some (.int .i64 p.1) ∧ W.cell? ⟨b, 1, none⟩ = some (.int .i64 p.2.1) ∧ W.cell? ⟨b, 2, none⟩ = some (.int .i64 p.2.2) := by simp [World.cell?, h, objSd]
theorem elSd : ElemOK Tryz.prog 23 50 3 24 := .mk' (z := .agg #[.int .i64 0, .int .i64 0, .int .i64 0]) Tryz.underlying23 (by kernel_rfl) rfl (by decide)

set_option maxRecDepth 100000 in
set_option maxHeartbeats 4000000 in
theorem asked13 (a : Option Addr) (l : List Pt) (n c : Nat) (ab : Option Addr) (P : List Sd) (np cp : Nat) {lo hi tb n0 : Nat} (w : World) (hn : l.length = n) (h : RdK ePt 3 w a l) (hT : HepAt w lo hi tb n0 l) (hp : P.length = np) (hB : RdK eSd 3 w ab P) (hnp : np ≤ 1000000) :
    Calls Tryz.prog 19 #[.pointer (some ⟨tb, 0, none⟩), .slice a n c, .slice ab np cp] w fun e w' => e = .returned (.bool true) ∧ Below w.heap.size w w' := by
  subst hn hp
  have few := hT.few2
  have HT := Lib.hid hT
  have HR := Lib.hid h
  have HB := Lib.hid hB
  have LN := Lib.hid (fun W (hb : Below w.heap.size w W) => hLen (hT.below hb hT.hi_le))
  clear hT h hB
  go_enter Tryz.func19, Tryz.ntmps19
  go_wp2
  go_loopw [11] (fun kv wr => ∃ k : Nat, kv = .int .i64 k ∧ k ≤ P.length ∧ Hid (Below w.heap.size w wr)) (fun kv _ => P.length - (intOf kv).toNat)
  case atStart => exact ⟨0, rfl, Nat.zero_le _, Lib.hid (Below.refl _ _)⟩
  case round =>
    obtain ⟨k, rfl, hk, HBK⟩ := hrel
    by_cases hkl : k < P.length
    · have hb := HBK.out
      obtain ⟨b9, off9, ea, hbl, hcs⟩ := (HB.out.below hb).get (by omega)
      have x0 := hcs k hkl 0 (by omega)
      have x1 := hcs k hkl 1 (by omega)
      have x2 := hcs k hkl 2 (by omega)
      simp only [eSd, List.getElem?_cons_zero, List.getElem?_cons_succ, Nat.add_zero] at x0 x1 x2
      have EA := Lib.hid ea
      clear hcs ea
      generalize P[k] = q at *
      obtain ⟨q1, q2, q3⟩ := q
      simp only at x0 x1 x2
      have hkl2 : (k : Int) < (P.length : Int) := by omega
      obtain rfl := EA.out
      clear EA
      obtain ⟨w6, ew6⟩ : ∃ w6, w6 = wr.alloc (.cells #[.int .i64 q1, .int .i64 q2, .int .i64 q3] 50) := ⟨_, rfl⟩
      have b6 : Below wr.heap.size wr w6 := by rw [ew6]; exact (Below.refl _ _).alloc (Nat.le_refl _) _
      have X6 : w6.heap[wr.heap.size]? = some (objSd (q1, q2, q3)) := by rw [ew6]; exact lit0 _ _
      have B6 := hb.trans (b6.mono hb.size)
      obtain ⟨y0, y1, y2⟩ := objSd_cells X6
      simp only at y0 y1 y2
      have HB6 := Lib.hid B6
      clear b6 hb B6 X6
      go_upto_region 4 with fail
      rw [← ew6]
      clear ew6 x0 x1 x2
      have g0 := cell_belowW y0
      have g1 := cell_belowW y1
      have g2 := cell_belowW y2
      refine wp_region_head (fun W => ∃ p : BelowW w6, W = p.W) [15, 16] [(0, false), (1, false), (2, true), (3, false), (4, true), (5, false), (6, true), (7, false), (8, false), (9, true), (10, false), (11, true), (12, false), (13, true)] (by kernel_rfl) (by kernel_rfl) (fun _ _ d _ _ h => by cases d <;> exact h) ⟨⟨_, (Below.refl _ _).drew⟩, rfl⟩ 3 rfl (by kernel_rfl) ?_
      simp only [pickB, List.filterMap_cons, List.filterMap_nil, List.getElem?_toArray, List.getElem?_cons_succ, List.getElem?_cons_zero, Option.map_some]
      repeat (refine wpHd_step (fun K hK => ?_); go_simp; first | (refine hK _ ?_; clear hK K) | (apply Exists.intro; refine ⟨fun _ => ?_, hK _ ?_⟩; rfl; clear hK K))
      refine wpHd_nil ?_
      refine wpAnyT_ready [14] (by kernel_rfl) (by simp) ?_
      refine AllReadyT.cons rfl (fun K hK => ?_) AllReadyT.nil
      have bd : Below w.heap.size w w6.drew := HB6.out.drew
      refine step_call ent_r13three rfl _ _ rfl (vals := #[.slice a l.length c, .int .i64 q1, .int .i64 q2, .int .i64 q3]) rfl (ref13_three a l l.length c w6.drew rfl (HR.out.below bd) (by omega) q1 q2 q3) ?_
      rintro e w7 ⟨v7, rfl, hown7, hb7⟩
      have b67 : Below w6.heap.size w6 w7 := ((Below.refl w6.heap.size w6).drew).trans hb7
      refine ⟨_, rfl, hK _ _ (fun _ _ => ⟨⟨_, b67⟩, rfl⟩) ?_⟩
      clear hK K
      have B7 := HB6.out.trans (b67.mono HB6.out.size)
      obtain ⟨a7, k7, rfl, -, -, hr7⟩ := Rd.of_owns hown7
      refine wpAnyT_ready [15] (by kernel_rfl) (by simp) ?_
      refine AllReadyT.cons rfl (fun K hK => ?_) AllReadyT.nil
      have hgl : (has3 l q1 q2 q3).length ≤ 20000 := by rw [has3_len]; exact Nat.le_trans (List.length_filter_le _ _) (by omega)
      have hq : hasQ3 l q1 q2 q3 (has3 l q1 q2 q3) = true := by simp [hasQ3]
      have ch := three13 (HT.out.below B7 HT.out.hi_le) q1 q2 q3 a7 (has3 l q1 q2 q3) _ k7 rfl hr7 (by omega)
      rw [hq] at ch
      refine step_call ent_three13 rfl _ _ rfl (vals := #[.pointer (some ⟨tb, 0, none⟩), .int .i64 q1, .int .i64 q2, .int .i64 q3, .slice a7 (has3 l q1 q2 q3).length k7]) rfl ch ?_
      rintro e w8 ⟨rfl, hb8⟩
      refine ⟨_, rfl, hK _ _ (fun _ h => absurd (by simp) h) ?_⟩
      clear hK K
      refine wpAnyT_line [16] _ _ _ (by kernel_rfl) ?_
      simp only [pick, List.filterMap_cons, List.filterMap_nil, List.getElem?_toArray, List.getElem?_cons_succ, List.getElem?_cons_zero]
      have HB8 := Lib.hid (B7.trans (hb8.mono B7.size))
      clear hb8 B7 hr7 hown7 hb7 b67 ch hq g0 g1 g2 y0 y1 y2 bd
      go_wp2
      exact ⟨⟨k + 1, by go_num, by omega, HB8⟩, by simp [intOf]; omega⟩
    · obtain rfl : k = P.length := by omega
      go_wp2_with fail
      refine (LN.out wr HBK.out).mono ?_
      rintro e w9 ⟨rfl, rfl⟩
      go_wp2
      go_ret
      exact ⟨rfl, HBK.out⟩

theorem aw3a : hasQ3 [(0, 0, 1), (2, 5, 2), (2, 1, 3), (7, 3, 4)] 1 9 3 [3, 4] = true := by
  unfold hasQ3 has3
  rw [show ids (([(0, 0, 1), (2, 5, 2), (2, 1, 3), (7, 3, 4)] : List Pt).filter (in3 1 9 3)) = [3, 4] by decide, srtI_of (S := [3, 4]) (by decide) (List.Perm.refl _)]
  rfl
theorem aw3b : hasQ3 [(0, 0, 1), (2, 5, 2), (2, 1, 3), (7, 3, 4)] 0 2 0 [1] = true := by
  unfold hasQ3 has3
  rw [show ids (([(0, 0, 1), (2, 5, 2), (2, 1, 3), (7, 3, 4)] : List Pt).filter (in3 0 2 0)) = [1] by decide, srtI_of (S := [1]) (by decide) (List.Perm.refl _)]
  rfl
theorem aw3c : hasQ3 [(0, 0, 1), (2, 5, 2), (2, 1, 3), (7, 3, 4)] 3 6 9 [] = true := by
  unfold hasQ3 has3
  rw [show ids (([(0, 0, 1), (2, 5, 2), (2, 1, 3), (7, 3, 4)] : List Pt).filter (in3 3 6 9)) = [] by decide, srtI_of (S := []) (by decide) (List.Perm.refl _)]
  rfl
theorem aw3d : hasQ3 [(0, 0, 1), (2, 5, 2), (2, 1, 3), (7, 3, 4)] 3 9 2 [] = true := by
  unfold hasQ3 has3
  rw [show ids (([(0, 0, 1), (2, 5, 2), (2, 1, 3), (7, 3, 4)] : List Pt).filter (in3 3 9 2)) = [] by decide, srtI_of (S := []) (by decide) (List.Perm.refl _)]
  rfl
theorem aw3e : hasQ3 [(0, 0, 1), (2, 5, 2), (2, 1, 3), (7, 3, 4)] 3 9 3 [4] = true := by
  unfold hasQ3 has3
  rw [show ids (([(0, 0, 1), (2, 5, 2), (2, 1, 3), (7, 3, 4)] : List Pt).filter (in3 3 9 3)) = [4] by decide, srtI_of (S := [4]) (by decide) (List.Perm.refl _)]
  rfl
theorem aw3f : hasQ3 [(2, 5, 2), (2, 1, 3), (7, 3, 4)] 0 2 1 [3] = true := by
  unfold hasQ3 has3
  rw [show ids (([(2, 5, 2), (2, 1, 3), (7, 3, 4)] : List Pt).filter (in3 0 2 1)) = [3] by decide, srtI_of (S := [3]) (by decide) (List.Perm.refl _)]
  rfl
theorem aw3g : (([(0, 0, 1), (2, 5, 2), (2, 1, 3), (7, 3, 4)] : List Pt).filter fun q => decide (q ≠ (0, 0, 1))) = [(2, 5, 2), (2, 1, 3), (7, 3, 4)] := by decide
theorem aw3h : decide (((0, 0, 1) : Pt) ∈ ([(0, 0, 1), (2, 5, 2), (2, 1, 3), (7, 3, 4)] : List Pt)) = true := by decide

set_option maxRecDepth 100000 in
set_option maxHeartbeats 4000000 in
theorem awake13 (w : World) : Calls Tryz.prog 15 #[] w fun e w' => e = .returned (.bool true) ∧ Below w.heap.size w w' := by
  have L := Lib.hid (RdK.lit (sz := 3) ePt_len)
  go_enter Tryz.func15, Tryz.ntmps15
  go_wp2_with fail
  have B0 : Below w.heap.size w (w.alloc (.cells #[.int .i64 0, .int .i64 0, .int .u32 1, .int .i64 2, .int .i64 5, .int .u32 2, .int .i64 2, .int .i64 1, .int .u32 3, .int .i64 7, .int .i64 3, .int .u32 4] 34)) := (Below.refl _ _).alloc (Nat.le_refl _) _
  have RL := L.out w 34 [(0, 0, 1), (2, 5, 2), (2, 1, 3), (7, 3, 4)] w.heap.size rfl
  have c := hBuild _ 4 [(0, 0, 1), (2, 5, 2), (2, 1, 3), (7, 3, 4)] _ RL (by decide) (by unfold wfN; decide) (by decide)
  simp only [List.flatMap_cons, List.flatMap_nil, List.append_nil, ePt, List.cons_append, List.nil_append, List.length_cons, List.length_nil, Nat.zero_add, Nat.reduceAdd] at c
  refine c.mono ?_
  rintro e w1 ⟨tb, rfl, hT1, hb1⟩
  have B1 : Below w.heap.size w w1 := B0.trans (hb1.mono (by simp))
  have hs1 : w.heap.size + 1 ≤ w1.heap.size := by have := hb1.size; simpa using this
  clear c B0 RL hb1
  have HT1 := Lib.hid hT1
  have hlo : w.heap.size ≤ w.heap.size + 1 := by omega
  clear hT1
  go_wp2_with fail
  have q : Below w1.heap.size w1 (w1.alloc (.cells #[.int .u32 3, .int .u32 4] 32)) := (Below.refl _ _).alloc (Nat.le_refl _) _
  have c := three13 (HT1.out.below q HT1.out.hi_le) 1 9 3 (some ⟨w1.heap.size, 0, none⟩) [3, 4] 2 2 rfl (Rd.lit (enc := Value.int .u32) w1 32 [3, 4] _ rfl) (by decide)
  rw [aw3a] at c
  refine c.mono ?_
  rintro e w2 ⟨rfl, hb⟩
  have qb := q.trans (hb.mono q.size)
  have HT2 := Lib.hid (HT1.out.below qb HT1.out.hi_le)
  have B2 := B1.trans (qb.mono B1.size)
  clear c q qb hb HT1 B1
  go_wp2_with fail
  have q : Below w2.heap.size w2 (w2.alloc (.cells #[.int .u32 1] 32)) := (Below.refl _ _).alloc (Nat.le_refl _) _
  have c := three13 (HT2.out.below q HT2.out.hi_le) 0 2 0 (some ⟨w2.heap.size, 0, none⟩) [1] 1 1 rfl (Rd.lit (enc := Value.int .u32) w2 32 [1] _ rfl) (by decide)
  rw [aw3b] at c
  refine c.mono ?_
  rintro e w3 ⟨rfl, hb⟩
  have qb := q.trans (hb.mono q.size)
  have HT3 := Lib.hid (HT2.out.below qb HT2.out.hi_le)
  have B3 := B2.trans (qb.mono B2.size)
  clear c q qb hb HT2 B2
  go_wp2_with fail
  have c := three13 HT3.out 3 6 9 none [] 0 0 rfl .nil (by decide)
  rw [aw3c] at c
  refine c.mono ?_
  rintro e w4 ⟨rfl, hb⟩
  have HT4 := Lib.hid (HT3.out.below hb HT3.out.hi_le)
  have B4 := B3.trans (hb.mono B3.size)
  clear c hb HT3 B3
  go_wp2_with fail
  have c := three13 HT4.out 3 9 2 none [] 0 0 rfl .nil (by decide)
  rw [aw3d] at c
  refine c.mono ?_
  rintro e w5 ⟨rfl, hb⟩
  have HT5 := Lib.hid (HT4.out.below hb HT4.out.hi_le)
  have B5 := B4.trans (hb.mono B4.size)
  clear c hb HT4 B4
  go_wp2_with fail
  have q : Below w5.heap.size w5 (w5.alloc (.cells #[.int .u32 4] 32)) := (Below.refl _ _).alloc (Nat.le_refl _) _
  have c := three13 (HT5.out.below q HT5.out.hi_le) 3 9 3 (some ⟨w5.heap.size, 0, none⟩) [4] 1 1 rfl (Rd.lit (enc := Value.int .u32) w5 32 [4] _ rfl) (by decide)
  rw [aw3e] at c
  refine c.mono ?_
  rintro e w6 ⟨rfl, hb⟩
  have qb := q.trans (hb.mono q.size)
  have HT6 := Lib.hid (HT5.out.below qb HT5.out.hi_le)
  have B6 := B5.trans (qb.mono B5.size)
  clear c q qb hb HT5 B5
  go_wp2_with fail
  have c := hDrop HT6.out (0, 0, 1)
  rw [aw3h, aw3g] at c
  refine c.mono ?_
  rintro e w7 ⟨rfl, hT7, hk7⟩
  have B7 : Below w.heap.size w w7 := B6.trans (hk7.toBelow B6.size (fun k hk => by have := hk.1; simp at this; omega))
  have HT7 := Lib.hid hT7
  clear c hT7 hk7 HT6 B6
  go_wp2_with fail
  have q : Below w7.heap.size w7 (w7.alloc (.cells #[.int .u32 3] 32)) := (Below.refl _ _).alloc (Nat.le_refl _) _
  have c := three13 (HT7.out.below q HT7.out.hi_le) 0 2 1 (some ⟨w7.heap.size, 0, none⟩) [3] 1 1 rfl (Rd.lit (enc := Value.int .u32) w7 32 [3] _ rfl) (by decide)
  rw [aw3f] at c
  refine c.mono ?_
  rintro e w8 ⟨rfl, hb⟩
  have qb := q.trans (hb.mono q.size)
  have HT8 := Lib.hid (HT7.out.below qb HT7.out.hi_le)
  have B8 := B7.trans (qb.mono B7.size)
  clear c q qb hb HT7 B7
  go_wp2_with fail
  refine (hLen HT8.out).mono ?_
  rintro e w9 ⟨rfl, rfl⟩
  go_wp2_with fail
  go_ret
  exact ⟨rfl, B8⟩
end Go.Proofs.YtggfdlanobndjaaGreat
