/- corner.Drop, Build over whatever a cascade does. -/
import Derived.Test.YthplgcakhniidaaGreatCorB
namespace Go.Proofs.YthplgcakhniidaaGreat
open Go.RowKit Go.Maps
attribute [local irreducible] wpQuiet
attribute [local go_sem] Oper.still1
set_option linter.unusedSimpArgs false
set_option linter.unusedVariables false

theorem ent_cDrop : ∀ args w, (callFunc 29 args).run Tryz.prog w = .ok (.enter 29 args) w := enters_of Tryz.func29 (by kernel_rfl) rfl
section
variable {w : World} {cb tb : Nat}

set_option maxRecDepth 100000 in
set_option maxHeartbeats 4000000 in
theorem cn_Drop {R : World → Bool → World → Prop} (hcl : cb < w.heap.size) (hc : w.cell? ⟨cb, 0, none⟩ = some (.pointer (some ⟨tb, 0, none⟩))) (px py pi : Int)
    (C : ∀ W, Below w.heap.size w W → Calls Tryz.prog 29 #[.pointer (some ⟨tb, 0, none⟩), vPt px py pi] W fun e W' => ∃ b, e = .returned (.bool b) ∧ R W b W') :
    Calls Tryz.prog 38 #[.pointer (some ⟨cb, 0, none⟩), vPt px py pi] w fun e w' => ∃ b, e = .returned (.bool b) ∧ ∃ W, Below w.heap.size w W ∧ R W b w' := by
  have CC := Lib.hid C
  clear C
  go_enter Tryz.func38, Tryz.ntmps38
  go_wp2_with fail
  obtain ⟨w1, ew1⟩ : ∃ w1, w1 = w.alloc (.cells #[.int .i64 px, .int .i64 py, .int .u32 pi] 34) := ⟨_, rfl⟩
  have hx1 : w1.heap[w.heap.size]? = some (.cells #[.int .i64 px, .int .i64 py, .int .u32 pi] 34 (0, 0)) := by rw [ew1]; exact lit0 _ _
  have B1 : Below w.heap.size w w1 := by rw [ew1]; exact (Below.refl _ _).alloc (Nat.le_refl _) _
  rw [← ew1]
  clear ew1
  have hc1 : w1.cell? ⟨cb, 0, none⟩ = some (.pointer (some ⟨tb, 0, none⟩)) := (B1.cell (p := ⟨cb, 0, none⟩) hcl).trans hc
  have CN := Lib.hid (cn_none cb tb w1.drew hc1)
  have g0 := cell_belowW hc1
  have g1 := cell_belowW (show w1.cell? ⟨w.heap.size, 0, none⟩ = some (.int .i64 px) by simp [World.cell?, hx1])
  have g2 := cell_belowW (show w1.cell? ⟨w.heap.size, 1, none⟩ = some (.int .i64 py) by simp [World.cell?, hx1])
  have g3 := cell_belowW (show w1.cell? ⟨w.heap.size, 2, none⟩ = some (.int .u32 pi) by simp [World.cell?, hx1])
  have CY := Lib.hid (CC.out w1.drew B1.drew)
  have HB1 := Lib.hid (show Below w.heap.size w w1.drew from B1.drew)
  clear CC hx1 B1 hc1
  refine wp_region_head (fun W => ∃ p : BelowW w1, W = p.W) [9, 10, 11] [(0, false)] (by kernel_rfl) (by kernel_rfl) (fun _ _ d _ _ h => by cases d <;> exact h) ⟨⟨_, (Below.refl _ _).drew⟩, rfl⟩ 11 rfl (by kernel_rfl) ?_
  simp only [pickB, List.filterMap_cons, List.filterMap_nil, List.getElem?_toArray, List.getElem?_cons_succ, List.getElem?_cons_zero, Option.map_some]
  repeat (refine wpHd_step (fun K hK => ?_); go_simp; first | (refine hK _ ?_; clear hK K) | (apply Exists.intro; refine ⟨fun _ => ?_, hK _ ?_⟩; rfl; clear hK K))
  refine wpHd_nil ?_
  refine wpAnyT_ready [1] (by kernel_rfl) (by simp) ?_
  refine AllReadyT.cons rfl (fun K hK => ?_) AllReadyT.nil
  refine step_call ent_cnone rfl _ _ rfl (vals := #[.pointer (some ⟨cb, 0, none⟩)]) rfl CN.out ?_
  rintro e w2 ⟨rfl, rfl⟩
  refine ⟨_, rfl, ?_⟩
  refine hK _ _ (fun _ _ => ⟨⟨_, (Below.refl _ _).drew⟩, rfl⟩) ?_
  clear hK K
  refine wpAnyT_next [(2, false), (3, false), (4, false), (5, false), (6, false), (7, true), (8, true)] (by kernel_rfl) (fun _ _ d _ _ h => by cases d <;> exact h) ⟨⟨_, (Below.refl _ _).drew⟩, rfl⟩ (by kernel_rfl) (by kernel_rfl) rfl ?_
  simp only [pickB, List.filterMap_cons, List.filterMap_nil, List.getElem?_toArray, List.getElem?_cons_succ, List.getElem?_cons_zero, Option.map_some]
  repeat (refine wpHd_step (fun K hK => ?_); go_simp; first | (refine hK _ ?_; clear hK K) | (apply Exists.intro; refine ⟨fun _ => ?_, hK _ ?_⟩; rfl; clear hK K))
  refine wpHd_nil ?_
  refine wpAnyT_line [9, 10, 11] _ _ _ (by kernel_rfl) ?_
  simp only [pick, List.filterMap_cons, List.filterMap_nil, List.getElem?_toArray, List.getElem?_cons_succ, List.getElem?_cons_zero]
  go_wp2_with fail
  refine CY.out.mono ?_
  rintro e w3 ⟨b, rfl, hR⟩
  have HR := Lib.hid hR
  clear hR
  go_wp2_with fail
  go_ret
  exact ⟨b, rfl, _, HB1.out, HR.out⟩

theorem cn_Build_bad {a : Option Addr} {n c : Nat} {v : Value} {er : Int} (hne : er ≠ 0) (C : Calls Tryz.prog 23 #[.slice a n c] w fun e W' => e = .returned (.tuple #[v, .int .i64 er]) ∧ Below w.heap.size w W') :
    Calls Tryz.prog 18 #[.slice a n c] w fun e w' => e = .returned (.tuple #[.pointer none, .int .i64 er]) ∧ Below w.heap.size w w' := by
  have CC := Lib.hid C
  have hq : (er == 0) = false := by simpa using hne
  clear C hne
  go_enter Tryz.func18, Tryz.ntmps18
  go_wp2_with (go_at_call 23; refine CC.out.mono ?_; rintro e w1 ⟨rfl, hb1⟩)
  go_ret2
  exact ⟨rfl, hb1⟩

theorem cn_Build {a : Option Addr} {n c : Nat} {R : Nat → World → Prop} (C : Calls Tryz.prog 23 #[.slice a n c] w fun e W' => ∃ tb, e = .returned (.tuple #[.pointer (some ⟨tb, 0, none⟩), .int .i64 0]) ∧ Below w.heap.size w W' ∧ R tb W') :
    Calls Tryz.prog 18 #[.slice a n c] w fun e w' => ∃ tb W, e = .returned (.tuple #[.pointer (some ⟨W.heap.size, 0, none⟩), .int .i64 0]) ∧ R tb W ∧ Below w.heap.size w W ∧ w' = W.alloc (.cells #[.pointer (some ⟨tb, 0, none⟩)] 85) := by
  have CC := Lib.hid C
  clear C
  go_enter Tryz.func18, Tryz.ntmps18
  go_wp2_with (go_at_call 23; refine CC.out.mono ?_; rintro e w1 ⟨tb, rfl, hb1, hR⟩; have HR := Lib.hid hR; clear hR)
  go_ret2
  exact ⟨tb, w1, rfl, HR.out, hb1, rfl⟩
end
end Go.Proofs.YthplgcakhniidaaGreat
