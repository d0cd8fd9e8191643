/- gridironlaw15.awake answers true. -/
import Derived.Test.YtpebefcmloablaaL15a
import Derived.Test.YtpebefcmloablaaBts
import Derived.Deep.CutRange
import Derived.Deep.RegionWith
namespace Go.Proofs.Ytpebefcmloablaa
open Go.RowKit Go.Maps
set_option linter.unusedSimpArgs false
set_option linter.unusedVariables false

theorem aw1 : skyOf [(0, 0, 1), (2, 5, 2), (2, 1, 3), (7, 3, 4), (7, 3, 5)] = [(2, 5, 2), (7, 3, 4), (7, 3, 5)] := by
  refine (skyOf_is (by decide)).unique ⟨by simp [ltX], fun p => ?_⟩
  obtain ⟨x, y, i⟩ := p
  constructor
  · intro h
    simp only [List.mem_cons, Prod.mk.injEq, List.not_mem_nil, or_false] at h
    rcases h with ⟨rfl, rfl, rfl⟩ | ⟨rfl, rfl, rfl⟩ | ⟨rfl, rfl, rfl⟩ <;> exact ⟨by decide, by decide⟩
  · rintro ⟨h, hb⟩
    simp only [List.mem_cons, Prod.mk.injEq, List.not_mem_nil, or_false] at h
    rcases h with ⟨rfl, rfl, rfl⟩ | ⟨rfl, rfl, rfl⟩ | ⟨rfl, rfl, rfl⟩ | ⟨rfl, rfl, rfl⟩ | ⟨rfl, rfl, rfl⟩ <;> first | (exfalso; revert hb; decide) | decide
theorem aw2 : skyOf [(2, 5, 2), (7, 3, 4), (3, 4, 6), (9, 0, 7)] = [(2, 5, 2), (3, 4, 6), (7, 3, 4), (9, 0, 7)] := by
  refine (skyOf_is (by decide)).unique ⟨by simp [ltX], fun p => ?_⟩
  obtain ⟨x, y, i⟩ := p
  constructor
  · intro h
    simp only [List.mem_cons, Prod.mk.injEq, List.not_mem_nil, or_false] at h
    rcases h with ⟨rfl, rfl, rfl⟩ | ⟨rfl, rfl, rfl⟩ | ⟨rfl, rfl, rfl⟩ | ⟨rfl, rfl, rfl⟩ <;> exact ⟨by decide, by decide⟩
  · rintro ⟨h, hb⟩
    simp only [List.mem_cons, Prod.mk.injEq, List.not_mem_nil, or_false] at h
    rcases h with ⟨rfl, rfl, rfl⟩ | ⟨rfl, rfl, rfl⟩ | ⟨rfl, rfl, rfl⟩ | ⟨rfl, rfl, rfl⟩ <;> first | (exfalso; revert hb; decide) | decide
theorem aw3 : rightF [(2, 5, 2), (7, 3, 4)] = true := by decide
theorem aw4 : rightF [(3, 4, 6), (9, 0, 7)] = true := by decide
theorem aw5 : (rightF [(2, 5, 2), (4, 5, 3)] && rightF []) = false := by decide
theorem aw6 : rightF [(2, 5, 2), (3, 4, 6), (7, 3, 4), (9, 0, 7)] = true := by decide
theorem aw7 : ids [(2, 5, 2), (7, 3, 4), (7, 3, 5)] = [2, 4, 5] := by decide
theorem aw8 : ids [(2, 5, 2), (3, 4, 6), (7, 3, 4), (9, 0, 7)] = [2, 6, 4, 7] := by decide
theorem wfI_of {l : List Pt} (h : (l.all fun p => (Lit.int .u32 p.2.2).wf) = true) : wfI l := fun p hp => List.all_eq_true.1 h p hp

set_option maxRecDepth 100000 in
set_option maxHeartbeats 4000000 in
theorem awake15 (w : World) : Calls Try.prog 14 #[] w fun e w' => e = .returned (.bool true) ∧ Below w.heap.size w w' := by
  have L := Lib.hid (RdK.lit (sz := 3) ePt_len)
  go_enter Try.func14, Try.ntmps14
  go_wp2_with fail
  have B0 : Below w.heap.size w (w.alloc (.cells #[.int .i64 0, .int .i64 0, .int .u32 1, .int .i64 2, .int .i64 5, .int .u32 2, .int .i64 2, .int .i64 1, .int .u32 3, .int .i64 7, .int .i64 3, .int .u32 4, .int .i64 7, .int .i64 3, .int .u32 5] 33)) := (Below.refl _ _).alloc (Nat.le_refl _) _
  have RL := L.out w 33 [(0, 0, 1), (2, 5, 2), (2, 1, 3), (7, 3, 4), (7, 3, 5)] w.heap.size rfl
  have c := of_yes _ [(0, 0, 1), (2, 5, 2), (2, 1, 3), (7, 3, 4), (7, 3, 5)] 5 5 _ rfl RL (by decide) (wfI_of (by decide)) (by decide)
  rw [aw1] at c
  simp only [List.flatMap_cons, List.flatMap_nil, List.append_nil, ePt, List.cons_append, List.nil_append, List.length_cons, List.length_nil, Nat.zero_add, Nat.reduceAdd] at c
  refine c.mono ?_
  rintro e w1 ⟨v1, rfl, hown1, hb1⟩
  have B1 : Below w.heap.size w w1 := B0.trans (hb1.mono (by simp))
  have RL1 := RL.below hb1
  obtain ⟨a1, c1, rfl, -, -, hr1⟩ := RdK.of_owns (l := [(2, 5, 2), (7, 3, 4), (7, 3, 5)]) (enc := ePt) ePt_len (by decide) hown1
  have R1 := Lib.hid hr1
  have hsz1 : w.heap.size + 1 ≤ w1.heap.size := by have := hb1.size; simpa using this
  obtain ⟨b, off, ea, hbl, hcs⟩ := RL1.get (by decide)
  obtain ⟨rfl, rfl⟩ : b = w.heap.size ∧ off = 0 := by injection ea with ea; injection ea with e1 e2; exact ⟨e1.symm, e2.symm⟩
  have x0 := hcs 1 (by decide) 0 (by decide)
  have x1 := hcs 1 (by decide) 1 (by decide)
  have x2 := hcs 1 (by decide) 2 (by decide)
  have y0 := hcs 3 (by decide) 0 (by decide)
  have y1 := hcs 3 (by decide) 1 (by decide)
  have y2 := hcs 3 (by decide) 2 (by decide)
  simp only [List.flatMap_cons, List.flatMap_nil, List.append_nil, ePt, List.cons_append, List.nil_append, List.getElem_cons_succ, List.getElem_cons_zero, List.getElem?_cons_zero, List.getElem?_cons_succ, Nat.add_zero, Nat.zero_add, Nat.one_mul, Nat.reduceMul, Nat.reduceAdd] at x0 x1 x2 y0 y1 y2
  clear hcs ea c hown1 hr1 RL1
  have SZ := B1.size
  have XA : Below w1.heap.size w1 ((w1.alloc (.cells #[.int .i64 2, .int .i64 5, .int .u32 2, .int .i64 7, .int .i64 3, .int .u32 4] 33)).alloc (.cells #[.int .i64 3, .int .i64 4, .int .u32 6, .int .i64 9, .int .i64 0, .int .u32 7] 33)).drew := (((Below.refl _ w1).alloc (Nat.le_refl _) _).alloc (by simp) _).drew
  have XB : Below w1.heap.size w1 ((w1.alloc (.cells #[.int .i64 3, .int .i64 4, .int .u32 6, .int .i64 9, .int .i64 0, .int .u32 7] 33)).alloc (.cells #[.int .i64 2, .int .i64 5, .int .u32 2, .int .i64 7, .int .i64 3, .int .u32 4] 33)).drew := (((Below.refl _ w1).alloc (Nat.le_refl _) _).alloc (by simp) _).drew
  have cA := merge_yes (some ⟨w1.heap.size, 0, none⟩) (some ⟨w1.heap.size + 1, 0, none⟩) [(2, 5, 2), (7, 3, 4)] [(3, 4, 6), (9, 0, 7)] 2 2 2 2 ((w1.alloc (.cells #[.int .i64 2, .int .i64 5, .int .u32 2, .int .i64 7, .int .i64 3, .int .u32 4] 33)).alloc (.cells #[.int .i64 3, .int .i64 4, .int .u32 6, .int .i64 9, .int .i64 0, .int .u32 7] 33)).drew rfl rfl (by decide) (by decide)
    (((L.out w1 33 [(2, 5, 2), (7, 3, 4)] w1.heap.size rfl).below ((Below.refl _ _).alloc (Nat.le_refl _) _)).below (Below.drewAny _ 1)) ((L.out (w1.alloc (.cells #[.int .i64 2, .int .i64 5, .int .u32 2, .int .i64 7, .int .i64 3, .int .u32 4] 33)) 33 [(3, 4, 6), (9, 0, 7)] (w1.heap.size + 1) (by simp)).below (Below.drewAny _ 1)) (by decide) (wfI_of (by decide)) (wfI_of (by decide)) aw3 aw4 (by decide)
  have cB := merge_yes (some ⟨w1.heap.size + 1, 0, none⟩) (some ⟨w1.heap.size, 0, none⟩) [(2, 5, 2), (7, 3, 4)] [(3, 4, 6), (9, 0, 7)] 2 2 2 2 ((w1.alloc (.cells #[.int .i64 3, .int .i64 4, .int .u32 6, .int .i64 9, .int .i64 0, .int .u32 7] 33)).alloc (.cells #[.int .i64 2, .int .i64 5, .int .u32 2, .int .i64 7, .int .i64 3, .int .u32 4] 33)).drew rfl rfl (by decide) (by decide)
    ((L.out (w1.alloc (.cells #[.int .i64 3, .int .i64 4, .int .u32 6, .int .i64 9, .int .i64 0, .int .u32 7] 33)) 33 [(2, 5, 2), (7, 3, 4)] (w1.heap.size + 1) (by simp)).below (Below.drewAny _ 1)) (((L.out w1 33 [(3, 4, 6), (9, 0, 7)] w1.heap.size rfl).below ((Below.refl _ _).alloc (Nat.le_refl _) _)).below (Below.drewAny _ 1)) (by decide) (wfI_of (by decide)) (wfI_of (by decide)) aw3 aw4 (by decide)
  rw [show [(2, 5, 2), (7, 3, 4)] ++ [(3, 4, 6), (9, 0, 7)] = ([(2, 5, 2), (7, 3, 4), (3, 4, 6), (9, 0, 7)] : List Pt) from rfl, aw2] at cA cB
  have fin : ∀ W, Below w1.heap.size w1 W → ∀ (e : Ending) w', (∃ v, e = .returned (.tuple #[v, .int .i64 0]) ∧ w'.ownsRow W.heap.size 33 3 v ([(2, 5, 2), (3, 4, 6), (7, 3, 4), (9, 0, 7)] : List Pt).length (([(2, 5, 2), (3, 4, 6), (7, 3, 4), (9, 0, 7)] : List Pt).flatMap ePt) ∧ Below W.heap.size W w') → ∃ a2 c2, e = .returned (.tuple #[.slice a2 4 c2, .int .i64 0]) ∧ Hid (RdK ePt 3 w' a2 [(2, 5, 2), (3, 4, 6), (7, 3, 4), (9, 0, 7)]) ∧ Below w1.heap.size w1 w' := by
    rintro W hW e w' ⟨v, rfl, hown, hb⟩
    obtain ⟨a2, c2, rfl, -, -, hr⟩ := RdK.of_owns (l := [(2, 5, 2), (3, 4, 6), (7, 3, 4), (9, 0, 7)]) (enc := ePt) ePt_len (by decide) hown
    exact ⟨a2, c2, rfl, hr, hW.trans (hb.mono hW.size)⟩
  have KA := cA.mono (fin _ XA)
  have KB := cB.mono (fin _ XB)
  clear cA cB fin XA XB
  go_upto_region 3 with fail
  go_cut [4, 5] from 28 to 41 (fun v4 v5 wx => ∃ a2 c2, v4 = .slice a2 4 c2 ∧ v5 = .int .i64 0 ∧ Hid (RdK ePt 3 wx a2 [(2, 5, 2), (3, 4, 6), (7, 3, 4), (9, 0, 7)]) ∧ Below w1.heap.size w1 wx)
  case first =>
    go_region_with (first
      | (go_at_call 19; with_reducible refine KA.mono ?_; rintro e w' ⟨a2, c2, rfl, h1, h2⟩)
      | (go_at_call 19; with_reducible refine KB.mono ?_; rintro e w' ⟨a2, c2, rfl, h1, h2⟩))
    all_goals go_wp2_with fail
    all_goals go_meet
    all_goals exact ⟨_, _, rfl, rfl, h1, h2⟩
  case rest =>
    obtain ⟨a2, c2, rfl, rfl, R2, hb2⟩ := hcut
    have B2 := B1.trans (hb2.mono B1.size)
    have R1' := Lib.hid (R1.out.below hb2)
    clear KA KB R1 x0 x1 x2 y0 y1 y2 RL hb1 hb2 B0 B1 hbl hsz1 SZ
    go_wp2_with fail
    have c := beats_yes a2 [(2, 5, 2), (3, 4, 6), (7, 3, 4), (9, 0, 7)] 4 c2 (1, 1, 0) wc rfl R2.out (by decide) (wfI_of (by decide)) aw6
    rw [show btn [(2, 5, 2), (3, 4, 6), (7, 3, 4), (9, 0, 7)] (1, 1, 0) = true by decide] at c
    refine c.mono ?_
    rintro e w3 ⟨⟨k3, rfl, -⟩, hb3⟩
    have B3 := B2.trans (hb3.mono B2.size)
    have R1d := Lib.hid (R1'.out.below hb3)
    have R2d := Lib.hid (R2.out.below hb3)
    clear c hb3 B2 R1' R2
    go_wp2_with fail
    have c := beats_yes a2 [(2, 5, 2), (3, 4, 6), (7, 3, 4), (9, 0, 7)] 4 c2 (3, 4, 0) w3 rfl R2d.out (by decide) (wfI_of (by decide)) aw6
    rw [show btn [(2, 5, 2), (3, 4, 6), (7, 3, 4), (9, 0, 7)] (3, 4, 0) = false by decide] at c
    refine c.mono ?_
    rintro e w4 ⟨⟨k4, rfl, -⟩, hb4⟩
    have B4 := B3.trans (hb4.mono B3.size)
    have R1e := Lib.hid (R1d.out.below hb4)
    have R2e := Lib.hid (R2d.out.below hb4)
    clear c hb4 B3 R1d R2d
    go_wp2_with fail
    have c := beats_yes a2 [(2, 5, 2), (3, 4, 6), (7, 3, 4), (9, 0, 7)] 4 c2 (9, 1, 0) w4 rfl R2e.out (by decide) (wfI_of (by decide)) aw6
    rw [show btn [(2, 5, 2), (3, 4, 6), (7, 3, 4), (9, 0, 7)] (9, 1, 0) = false by decide] at c
    refine c.mono ?_
    rintro e w5 ⟨⟨k5, rfl, -⟩, hb5⟩
    have B5 := B4.trans (hb5.mono B4.size)
    have R1f := Lib.hid (R1e.out.below hb5)
    have R2f := Lib.hid (R2e.out.below hb5)
    clear c hb5 B4 R1e R2e
    go_wp2_with fail
    have c := merge_stair _ none [(2, 5, 2), (4, 5, 3)] [] 2 0 2 0 _ rfl rfl (L.out w5 33 [(2, 5, 2), (4, 5, 3)] w5.heap.size rfl) RdK.nil (by decide) (wfI_of (by decide)) (wfI_of (by decide)) aw5
    simp only [List.flatMap_cons, List.flatMap_nil, List.append_nil, ePt, List.cons_append, List.nil_append, List.length_cons, List.length_nil, Nat.zero_add, Nat.reduceAdd] at c
    refine c.mono ?_
    rintro e w6 ⟨rfl, hb6⟩
    have hbx := ((Below.refl _ _).alloc (Nat.le_refl _) _).trans (hb6.mono (by simp))
    have B6 := B5.trans (hbx.mono B5.size)
    have R1g := Lib.hid (R1f.out.below hbx)
    have R2g := Lib.hid (R2f.out.below hbx)
    clear c hb6 hbx B5 R1f R2f
    go_wp2_with fail
    have c := names_calls _ _ [(2, 5, 2), (7, 3, 4), (7, 3, 5)] [2, 4, 5] 3 3 c1 3 _ rfl rfl (R1g.out.below ((Below.refl _ _).alloc (Nat.le_refl _) _)) (Rd.lit (enc := Value.int .u32) w6 31 [2, 4, 5] _ rfl) (by decide) (by decide)
    rw [aw7] at c
    simp only [decide_true, List.map_cons, List.map_nil, List.length_cons, List.length_nil, Nat.zero_add, Nat.reduceAdd] at c
    refine c.mono ?_
    rintro e w7 ⟨rfl, hb7⟩
    have hbx := ((Below.refl _ _).alloc (Nat.le_refl _) _).trans (hb7.mono (by simp))
    have B7 := B6.trans (hbx.mono B6.size)
    have R2h := Lib.hid (R2g.out.below hbx)
    clear c hb7 hbx B6 R1g R2g
    go_wp2_with fail
    have c := names_calls _ _ [(2, 5, 2), (3, 4, 6), (7, 3, 4), (9, 0, 7)] [2, 6, 4, 7] 4 4 c2 4 _ rfl rfl (R2h.out.below ((Below.refl _ _).alloc (Nat.le_refl _) _)) (Rd.lit (enc := Value.int .u32) w7 31 [2, 6, 4, 7] _ rfl) (by decide) (by decide)
    rw [aw8] at c
    simp only [decide_true, List.map_cons, List.map_nil, List.length_cons, List.length_nil, Nat.zero_add, Nat.reduceAdd] at c
    refine c.mono ?_
    rintro e w8 ⟨rfl, hb8⟩
    have hbx := ((Below.refl _ _).alloc (Nat.le_refl _) _).trans (hb8.mono (by simp))
    have B8 := B7.trans (hbx.mono B7.size)
    go_wp2
    go_ret
    exact ⟨rfl, B8⟩

end Go.Proofs.Ytpebefcmloablaa
