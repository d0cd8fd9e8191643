/- corner.Report, Count, Drop, Len, over whatever a cascade tells. -/
import Derived.Test.YthplgcakhniidaaGreatCorA
import Derived.Test.YthplgcakhniidaaGreatQ3
namespace Go.Proofs.YthplgcakhniidaaGreat
open Go.RowKit Go.Maps
attribute [local irreducible] wpQuiet
attribute [local go_sem] Oper.still1
set_option linter.unusedSimpArgs false
set_option linter.unusedVariables false

theorem ent_cbox : ∀ args w, (callFunc 50 args).run Tryz.prog w = .ok (.enter 50 args) w := enters_of Tryz.func50 (by kernel_rfl) rfl
theorem ent_cReport : ∀ args w, (callFunc 24 args).run Tryz.prog w = .ok (.enter 24 args) w := enters_of Tryz.func24 (by kernel_rfl) rfl
theorem ent_cCount : ∀ args w, (callFunc 22 args).run Tryz.prog w = .ok (.enter 22 args) w := enters_of Tryz.func22 (by kernel_rfl) rfl
theorem ent_cnone : ∀ args w, (callFunc 73 args).run Tryz.prog w = .ok (.enter 73 args) w := enters_of Tryz.func73 (by kernel_rfl) rfl
section
variable {w : World} {cb tb : Nat}

set_option maxRecDepth 100000 in
set_option maxHeartbeats 4000000 in
theorem cn_Report {R : World → Value → Value → World → Prop} (hcl : cb < w.heap.size) (hc : w.cell? ⟨cb, 0, none⟩ = some (.pointer (some ⟨tb, 0, none⟩))) (x y : Int) (wx wy : Bool) (way : Int) (hway : way = (if wx then 1 else 0) + (if wy then 2 else 0))
    (C : ∀ W, Below w.heap.size w W → Calls Tryz.prog 24 #[.pointer (some ⟨tb, 0, none⟩), .agg #[.int .i64 (bx1 x wx), .int .i64 (bx2 x wx), .int .i64 (bx1 y wy), .int .i64 (bx2 y wy), .int .u32 0]] W fun e W' => ∃ v c, e = .returned (.tuple #[v, c]) ∧ Below W.heap.size W W' ∧ R W v c W') :
    Calls Tryz.prog 35 #[.pointer (some ⟨cb, 0, none⟩), .int .i64 x, .int .i64 y, .int .u8 way] w fun e w' => ∃ v c, e = .returned (.tuple #[v, c]) ∧ ∃ W, Below w.heap.size w W ∧ R W v c w' := by
  have CN := Lib.hid (cn_none cb tb w hc)
  have CX := Lib.hid (fun W => cn_box x y wx wy way hway W)
  have CC := Lib.hid C
  have d3 : decide (3 < way) = false := by simp only [decide_eq_false_iff_not]; cases wx <;> cases wy <;> simp at hway <;> omega
  have d3' : decide (way > 3) = false := d3
  have HCL := Lib.hid hcl
  clear C hway
  generalize bx1 x wx = a1 at *
  generalize bx2 x wx = a2 at *
  generalize bx1 y wy = a3 at *
  generalize bx2 y wy = a4 at *
  go_enter Tryz.func35, Tryz.ntmps35
  go_wp2_with fail
  refine CN.out.mono ?_
  rintro e w1 ⟨rfl, rfl⟩
  go_wp2_with fail
  have gC : ∀ p : BelowW w1, p.W.cell? ⟨cb, 0, none⟩ = some (.pointer (some ⟨tb, 0, none⟩)) := cell_belowW hc
  refine wp_region_head (fun W => ∃ p : BelowW w1, W = p.W) [8, 9, 10, 11, 12] [(0, false), (1, false), (2, false), (3, true), (4, false), (5, false), (6, false)] (by kernel_rfl) (by kernel_rfl) (fun _ _ d _ _ h => by cases d <;> exact h) ⟨⟨_, (Below.refl _ _).drew⟩, rfl⟩ 6 rfl (by kernel_rfl) ?_
  simp only [pickB, List.filterMap_cons, List.filterMap_nil, List.getElem?_toArray, List.getElem?_cons_succ, List.getElem?_cons_zero, Option.map_some]
  repeat (refine wpHd_step (fun K hK => ?_); go_simp; first | (refine hK _ ?_; clear hK K) | (apply Exists.intro; refine ⟨fun _ => ?_, hK _ ?_⟩; rfl; clear hK K))
  refine wpHd_nil ?_
  refine wpAnyT_ready [7] (by kernel_rfl) (by simp) ?_
  refine AllReadyT.cons rfl (fun K hK => ?_) AllReadyT.nil
  refine step_call ent_cbox rfl _ _ rfl (vals := #[.int .i64 x, .int .i64 y, .int .u8 way]) rfl (CX.out _) ?_
  rintro e w2 ⟨rfl, hb2⟩
  have B2 : Below w1.heap.size w1 w2 := (Below.refl _ _).drew.trans hb2
  refine ⟨_, rfl, ?_⟩
  refine hK _ _ (fun _ _ => ⟨⟨_, B2⟩, rfl⟩) ?_
  clear hK K
  have CY := Lib.hid (CC.out w2 B2)
  clear CC hb2 gC
  refine wpAnyT_ready [8] (by kernel_rfl) (by simp) ?_
  refine AllReadyT.cons rfl (fun K hK => ?_) AllReadyT.nil
  refine step_call ent_cReport rfl _ _ rfl (vals := #[.pointer (some ⟨tb, 0, none⟩), .agg #[.int .i64 a1, .int .i64 a2, .int .i64 a3, .int .i64 a4, .int .u32 0]]) rfl CY.out ?_
  rintro e w3 ⟨v, c, rfl, hb3, hR⟩
  have B3 := B2.trans (hb3.mono B2.size)
  have HR := Lib.hid hR
  have HB2 := Lib.hid B2
  clear hR B2 hb3
  refine ⟨_, rfl, ?_⟩
  refine hK _ _ (fun _ _ => ⟨⟨_, B3⟩, rfl⟩) ?_
  clear hK K
  refine wpAnyT_next [(9, false), (10, false)] (by kernel_rfl) (fun _ _ d _ _ h => by cases d <;> exact h) ⟨⟨_, B3⟩, rfl⟩ (by kernel_rfl) (by kernel_rfl) rfl ?_
  simp only [pickB, List.filterMap_cons, List.filterMap_nil, List.getElem?_toArray, List.getElem?_cons_succ, List.getElem?_cons_zero, Option.map_some]
  repeat (refine wpHd_step (fun K hK => ?_); go_simp; first | (refine hK _ ?_; clear hK K) | (apply Exists.intro; refine ⟨fun _ => ?_, hK _ ?_⟩; rfl; clear hK K))
  refine wpHd_nil ?_
  refine wpAnyT_line [11, 12] _ _ _ (by kernel_rfl) ?_
  simp only [pick, List.filterMap_cons, List.filterMap_nil, List.getElem?_toArray, List.getElem?_cons_succ, List.getElem?_cons_zero]
  go_wp2_with fail
  go_ret2
  exact ⟨v, c, rfl, w2, HB2.out, HR.out⟩

theorem cn_Report_no {w : World} (p : Option Addr) (hp : p = none ∨ ∃ cb tb, p = some ⟨cb, 0, none⟩ ∧ w.cell? ⟨cb, 0, none⟩ = some (.pointer (some ⟨tb, 0, none⟩))) (x y way : Int) (hw : p = none ∨ 3 < way) :
    Calls Tryz.prog 35 #[.pointer p, .int .i64 x, .int .i64 y, .int .u8 way] w fun e w' => e = .returned (.tuple #[.slice none 0 0, .int .i64 0]) ∧ w' = w := by
  rcases hp with rfl | ⟨cb, tb, rfl, hc⟩
  · have CN := Lib.hid (cn_none_nil w)
    go_enter Tryz.func35, Tryz.ntmps35
    go_wp2_with (go_at_call 73; refine CN.out.mono ?_; rintro e w1 ⟨rfl, rfl⟩)
    go_ret2
    exact ⟨rfl, rfl⟩
  · have CN := Lib.hid (cn_none cb tb w hc)
    have d3 : decide (3 < way) = true := by rcases hw with h | h; cases h; simpa using h
    have d3' : decide (way > 3) = true := d3
    clear hw
    go_enter Tryz.func35, Tryz.ntmps35
    go_wp2_with (go_at_call 73; refine CN.out.mono ?_; rintro e w1 ⟨rfl, rfl⟩)
    go_ret2
    exact ⟨rfl, rfl⟩

set_option maxRecDepth 100000 in
set_option maxHeartbeats 4000000 in
theorem cn_Count {R : World → Value → Value → World → Prop} (hcl : cb < w.heap.size) (hc : w.cell? ⟨cb, 0, none⟩ = some (.pointer (some ⟨tb, 0, none⟩))) (x y : Int) (wx wy : Bool) (way : Int) (hway : way = (if wx then 1 else 0) + (if wy then 2 else 0))
    (C : ∀ W, Below w.heap.size w W → Calls Tryz.prog 22 #[.pointer (some ⟨tb, 0, none⟩), .agg #[.int .i64 (bx1 x wx), .int .i64 (bx2 x wx), .int .i64 (bx1 y wy), .int .i64 (bx2 y wy), .int .u32 0]] W fun e W' => ∃ v c, e = .returned (.tuple #[v, c]) ∧ Below W.heap.size W W' ∧ R W v c W') :
    Calls Tryz.prog 37 #[.pointer (some ⟨cb, 0, none⟩), .int .i64 x, .int .i64 y, .int .u8 way] w fun e w' => ∃ v c, e = .returned (.tuple #[v, c]) ∧ ∃ W, Below w.heap.size w W ∧ R W v c w' := by
  have CN := Lib.hid (cn_none cb tb w hc)
  have CX := Lib.hid (fun W => cn_box x y wx wy way hway W)
  have CC := Lib.hid C
  have d3 : decide (3 < way) = false := by simp only [decide_eq_false_iff_not]; cases wx <;> cases wy <;> simp at hway <;> omega
  have d3' : decide (way > 3) = false := d3
  have HCL := Lib.hid hcl
  clear C hway
  generalize bx1 x wx = a1 at *
  generalize bx2 x wx = a2 at *
  generalize bx1 y wy = a3 at *
  generalize bx2 y wy = a4 at *
  go_enter Tryz.func37, Tryz.ntmps37
  go_wp2_with fail
  refine CN.out.mono ?_
  rintro e w1 ⟨rfl, rfl⟩
  go_wp2_with fail
  have gC : ∀ p : BelowW w1, p.W.cell? ⟨cb, 0, none⟩ = some (.pointer (some ⟨tb, 0, none⟩)) := cell_belowW hc
  refine wp_region_head (fun W => ∃ p : BelowW w1, W = p.W) [8, 9, 10, 11, 12] [(0, false), (1, false), (2, false), (3, true), (4, false), (5, false), (6, false)] (by kernel_rfl) (by kernel_rfl) (fun _ _ d _ _ h => by cases d <;> exact h) ⟨⟨_, (Below.refl _ _).drew⟩, rfl⟩ 6 rfl (by kernel_rfl) ?_
  simp only [pickB, List.filterMap_cons, List.filterMap_nil, List.getElem?_toArray, List.getElem?_cons_succ, List.getElem?_cons_zero, Option.map_some]
  repeat (refine wpHd_step (fun K hK => ?_); go_simp; first | (refine hK _ ?_; clear hK K) | (apply Exists.intro; refine ⟨fun _ => ?_, hK _ ?_⟩; rfl; clear hK K))
  refine wpHd_nil ?_
  refine wpAnyT_ready [7] (by kernel_rfl) (by simp) ?_
  refine AllReadyT.cons rfl (fun K hK => ?_) AllReadyT.nil
  refine step_call ent_cbox rfl _ _ rfl (vals := #[.int .i64 x, .int .i64 y, .int .u8 way]) rfl (CX.out _) ?_
  rintro e w2 ⟨rfl, hb2⟩
  have B2 : Below w1.heap.size w1 w2 := (Below.refl _ _).drew.trans hb2
  refine ⟨_, rfl, ?_⟩
  refine hK _ _ (fun _ _ => ⟨⟨_, B2⟩, rfl⟩) ?_
  clear hK K
  have CY := Lib.hid (CC.out w2 B2)
  clear CC hb2 gC
  refine wpAnyT_ready [8] (by kernel_rfl) (by simp) ?_
  refine AllReadyT.cons rfl (fun K hK => ?_) AllReadyT.nil
  refine step_call ent_cCount rfl _ _ rfl (vals := #[.pointer (some ⟨tb, 0, none⟩), .agg #[.int .i64 a1, .int .i64 a2, .int .i64 a3, .int .i64 a4, .int .u32 0]]) rfl CY.out ?_
  rintro e w3 ⟨v, c, rfl, hb3, hR⟩
  have B3 := B2.trans (hb3.mono B2.size)
  have HR := Lib.hid hR
  have HB2 := Lib.hid B2
  clear hR B2 hb3
  refine ⟨_, rfl, ?_⟩
  refine hK _ _ (fun _ _ => ⟨⟨_, B3⟩, rfl⟩) ?_
  clear hK K
  refine wpAnyT_next [(9, false), (10, false)] (by kernel_rfl) (fun _ _ d _ _ h => by cases d <;> exact h) ⟨⟨_, B3⟩, rfl⟩ (by kernel_rfl) (by kernel_rfl) rfl ?_
  simp only [pickB, List.filterMap_cons, List.filterMap_nil, List.getElem?_toArray, List.getElem?_cons_succ, List.getElem?_cons_zero, Option.map_some]
  repeat (refine wpHd_step (fun K hK => ?_); go_simp; first | (refine hK _ ?_; clear hK K) | (apply Exists.intro; refine ⟨fun _ => ?_, hK _ ?_⟩; rfl; clear hK K))
  refine wpHd_nil ?_
  refine wpAnyT_line [11, 12] _ _ _ (by kernel_rfl) ?_
  simp only [pick, List.filterMap_cons, List.filterMap_nil, List.getElem?_toArray, List.getElem?_cons_succ, List.getElem?_cons_zero]
  go_wp2_with fail
  go_ret2
  exact ⟨v, c, rfl, w2, HB2.out, HR.out⟩

theorem cn_Count_no {w : World} (p : Option Addr) (hp : p = none ∨ ∃ cb tb, p = some ⟨cb, 0, none⟩ ∧ w.cell? ⟨cb, 0, none⟩ = some (.pointer (some ⟨tb, 0, none⟩))) (x y way : Int) (hw : p = none ∨ 3 < way) :
    Calls Tryz.prog 37 #[.pointer p, .int .i64 x, .int .i64 y, .int .u8 way] w fun e w' => e = .returned (.tuple #[.int .i64 0, .int .i64 0]) ∧ w' = w := by
  rcases hp with rfl | ⟨cb, tb, rfl, hc⟩
  · have CN := Lib.hid (cn_none_nil w)
    go_enter Tryz.func37, Tryz.ntmps37
    go_wp2_with (go_at_call 73; refine CN.out.mono ?_; rintro e w1 ⟨rfl, rfl⟩)
    go_ret2
    exact ⟨rfl, rfl⟩
  · have CN := Lib.hid (cn_none cb tb w hc)
    have d3 : decide (3 < way) = true := by rcases hw with h | h; cases h; simpa using h
    have d3' : decide (way > 3) = true := d3
    clear hw
    go_enter Tryz.func37, Tryz.ntmps37
    go_wp2_with (go_at_call 73; refine CN.out.mono ?_; rintro e w1 ⟨rfl, rfl⟩)
    go_ret2
    exact ⟨rfl, rfl⟩

theorem cn_Len_nil (w : World) : Calls Tryz.prog 40 #[.pointer none] w fun e w' => e = .returned (.int .i64 0) ∧ w' = w := by
  have CN := Lib.hid (cn_none_nil w)
  go_enter Tryz.func40, Tryz.ntmps40
  go_wp2_with (go_at_call 73; refine CN.out.mono ?_; rintro e w1 ⟨rfl, rfl⟩)
  go_ret
  exact ⟨rfl, rfl⟩
theorem cn_Len {n : Int} (hc : w.cell? ⟨cb, 0, none⟩ = some (.pointer (some ⟨tb, 0, none⟩))) (C : Calls Tryz.prog 26 #[.pointer (some ⟨tb, 0, none⟩)] w fun e W' => e = .returned (.int .i64 n) ∧ W' = w) :
    Calls Tryz.prog 40 #[.pointer (some ⟨cb, 0, none⟩)] w fun e w' => e = .returned (.int .i64 n) ∧ w' = w := by
  have CN := Lib.hid (cn_none cb tb w hc)
  have CC := Lib.hid C
  clear C
  go_enter Tryz.func40, Tryz.ntmps40
  go_wp2_with (first
    | (go_at_call 73; refine CN.out.mono ?_; rintro e w1 ⟨rfl, rfl⟩)
    | (go_at_call 26; refine CC.out.mono ?_; rintro e w2 ⟨rfl, rfl⟩))
  go_ret
  exact ⟨rfl, rfl⟩
end
end Go.Proofs.YthplgcakhniidaaGreat
