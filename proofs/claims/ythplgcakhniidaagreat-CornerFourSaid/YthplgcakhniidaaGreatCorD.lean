/- corner.all: what some boxes have, in order. -/
import Derived.Test.YthplgcakhniidaaGreatCorB
import Derived.Test.YthplgcakhniidaaGreatQ7
import Derived.Test.YthplgcakhniidaaGreatQ3
import Derived.Test.YthplgcakhniidaaGreatQ4
namespace Go.Proofs.YthplgcakhniidaaGreat
open Go.RowKit Go.Maps
attribute [local irreducible] wpQuiet
attribute [local go_sem] Oper.still1
set_option linter.unusedSimpArgs false
set_option linter.unusedVariables false

theorem flat_take {α : Type} {l : List α} {i : Nat} (hi : i < l.length) (F : α → List Int) : (l.take (i + 1)).flatMap F = (l.take i).flatMap F ++ F l[i] := by
  rw [List.take_succ_eq_append_getElem hi, List.flatMap_append]
  simp

theorem map_flat {α β : Type} (f : α → β) : ∀ M : List α, M.map f = M.flatMap fun x => [f x]
  | [] => rfl
  | x :: l => by rw [List.map_cons, List.flatMap_cons, ← map_flat f l]; rfl

set_option maxRecDepth 100000 in
set_option maxHeartbeats 8000000 in
theorem cn_all {w : World} {cb tb K : Nat} (F : Bx → List Int) (hcl : cb < w.heap.size) (hc : w.cell? ⟨cb, 0, none⟩ = some (.pointer (some ⟨tb, 0, none⟩)))
    (BL : List Bx) (ab : Option Addr) (nb kb : Nat) (hn : BL.length = nb) (hB : RdK eBx 5 w ab BL) (hl : nb ≤ 2) (hK : K ≤ 100000) (hF : ∀ b, (F b).length ≤ 20000)
    (C : ∀ W, Below w.heap.size w W → ∀ b : Bx, Calls Tryz.prog 24 #[.pointer (some ⟨tb, 0, none⟩), .agg #[.int .i64 b.1, .int .i64 b.2.1, .int .i64 b.2.2.1, .int .i64 b.2.2.2.1, .int .u32 b.2.2.2.2]] W fun e W' => ∃ v, ∃ c : Nat, e = .returned (.tuple #[v, .int .i64 ((c + (F b).length : Nat) : Int)]) ∧ c ≤ K ∧ W'.ownsRow W.heap.size 32 1 v (F b).length ((F b).map (Value.int .u32)) ∧ Below W.heap.size W W') :
    Calls Tryz.prog 52 #[.pointer (some ⟨cb, 0, none⟩), .slice ab nb kb] w fun e w' => ∃ v, ∃ c : Nat, e = .returned (.tuple #[v, .int .i64 ((c + (BL.flatMap F).length : Nat) : Int)]) ∧ c ≤ nb * K ∧ w'.ownsRow w.heap.size 32 1 v (srtI (BL.flatMap F)).length ((srtI (BL.flatMap F)).map (Value.int .u32)) ∧ Below w.heap.size w w' := by
  subst hn
  obtain ⟨T, hT⟩ : ∃ T, T = BL.flatMap F := ⟨_, rfl⟩
  rw [← hT]
  have HTT := Lib.hid hT
  clear hT
  have CN := Lib.hid (cn_none cb tb w hc)
  have HPR := Lib.hid hB
  have CC := Lib.hid C
  have HFL := Lib.hid hF
  have HC := Lib.hid hc
  clear C hB hF hc
  go_enter Tryz.func52, Tryz.ntmps52
  go_wp2_with (go_at_call 73; refine CN.out.mono ?_; rintro e w1 ⟨rfl, rfl⟩)
  clear CN
  go_loopw [6, 7, 16] (fun ov tv iv wr => ∃ (i c : Nat), iv = .int .i64 i ∧ i ≤ BL.length ∧ c ≤ i * K ∧ tv = .int .i64 ((c + ((BL.take i).flatMap F).length : Nat) : Int) ∧ Hid (wr.ownsRow w1.heap.size 32 1 ov ((BL.take i).flatMap F).length (((BL.take i).flatMap F).map (Value.int .u32))) ∧ ((BL.take i).flatMap F).length ≤ i * 20000 ∧ Below w1.heap.size w1 wr) (fun _ _ iv _ => BL.length - (intOf iv).toNat)
  case atStart => exact ⟨0, 0, rfl, Nat.zero_le _, Nat.zero_le _, by simp, by simp; exact World.ownsRow_nil _ _ _ _, by simp, Below.refl _ _⟩
  case round =>
    obtain ⟨i, c, rfl, hi, hci, rfl, HO, hfl, hb⟩ := hrel
    have hcb : c ≤ 200000 := Nat.le_trans hci (Nat.le_trans (Nat.mul_le_mul (show i ≤ 2 by omega) hK) (by decide))
    by_cases hlt : i < BL.length
    · obtain ⟨b2, off, ea, hbl, hcs⟩ := (HPR.out.below hb).get (by omega)
      have x0 := hcs i hlt 0 (by omega)
      have x1 := hcs i hlt 1 (by omega)
      have x2 := hcs i hlt 2 (by omega)
      have x3 := hcs i hlt 3 (by omega)
      have x4 := hcs i hlt 4 (by omega)
      simp only [eBx, List.getElem?_cons_zero, List.getElem?_cons_succ, Nat.add_zero] at x0 x1 x2 x3 x4
      have EA := Lib.hid ea
      have FT := Lib.hid (flat_take hlt F)
      have hq9 := HFL.out BL[i]
      clear hcs ea
      generalize BL[i] = q at *
      generalize (BL.take i).flatMap F = L at *
      have CQ := Lib.hid (fun W hW => CC.out W hW q)
      obtain ⟨q1, q2, q3, q4, q5⟩ := q
      simp only at x0 x1 x2 x3 x4
      have hkl2 : (i : Int) < (BL.length : Int) := by omega
      obtain rfl := EA.out
      clear EA
      obtain ⟨w4, ew4⟩ : ∃ w4, w4 = wr.alloc (.cells #[.int .i64 q1, .int .i64 q2, .int .i64 q3, .int .i64 q4, .int .u32 q5] 39) := ⟨_, rfl⟩
      have b4 : Below wr.heap.size wr w4 := by rw [ew4]; exact (Below.refl _ _).alloc (Nat.le_refl _) _
      have X4 : w4.heap[wr.heap.size]? = some (objBx (q1, q2, q3, q4, q5)) := by rw [ew4]; exact lit0 _ _
      have hs4 : wr.heap.size < w4.heap.size := (Array.getElem?_eq_some_iff.1 X4).1
      have B4 := hb.trans (b4.mono hb.size)
      have HO4 := Lib.hid (ownsRow_below HO.out b4)
      have EX := ew4.symm
      obtain ⟨y0, y1, y2, y3, y4⟩ := objBx_cells X4
      have hc4 := (B4.cell (p := ⟨cb, 0, none⟩) hcl).trans HC.out
      clear ew4 b4
      go_wp2_with fail
      try rw [EX]
      clear EX x0 x1 x2 x3 x4
      have g0 := cell_belowW hc4
      have g1 := cell_belowW y0
      have g2 := cell_belowW y1
      have g3 := cell_belowW y2
      have g4 := cell_belowW y3
      have g5 := cell_belowW y4
      have CY := Lib.hid (CQ.out w4.drew B4.drew)
      have HB4 := Lib.hid (show Below w1.heap.size w1 w4.drew from B4.drew)
      have HX4 := Lib.hid (show w4.drew.heap[wr.heap.size]? = _ from X4)
      clear hc4 y0 y1 y2 y3 y4 B4 CQ X4
      refine wp_region_head (fun W => ∃ p : BelowW w4, W = p.W) [5, 6, 7, 8, 9, 10] [(0, false), (1, false), (2, false), (3, true), (4, true)] (by kernel_rfl) (by kernel_rfl) (fun _ _ d _ _ h => by cases d <;> exact h) ⟨⟨_, (Below.refl _ _).drew⟩, rfl⟩ 6 rfl (by kernel_rfl) ?_
      simp only [pickB, List.filterMap_cons, List.filterMap_nil, List.getElem?_toArray, List.getElem?_cons_succ, List.getElem?_cons_zero, Option.map_some]
      repeat (refine wpHd_step (fun K hK => ?_); go_simp; first | (refine hK _ ?_; clear hK K) | (apply Exists.intro; refine ⟨fun _ => ?_, hK _ ?_⟩; rfl; clear hK K))
      refine wpHd_nil ?_
      refine wpAnyT_ready [5] (by kernel_rfl) (by simp) ?_
      refine AllReadyT.cons rfl (fun K hK => ?_) AllReadyT.nil
      refine step_call ent_cReport rfl _ _ rfl (vals := #[.pointer (some ⟨tb, 0, none⟩), .agg #[.int .i64 q1, .int .i64 q2, .int .i64 q3, .int .i64 q4, .int .u32 q5]]) rfl CY.out ?_
      rintro e w5 ⟨v5, c5, rfl, hc5, hown5, hb5⟩
      refine ⟨_, rfl, ?_⟩
      refine hK _ _ (fun _ _ => ⟨⟨_, (Below.refl _ _).drew.trans hb5⟩, rfl⟩) ?_
      clear hK K
      refine wpAnyT_next [(6, false), (7, false), (8, false)] (by kernel_rfl) (fun _ _ d _ _ h => by cases d <;> exact h) ⟨⟨_, (Below.refl _ _).drew.trans hb5⟩, rfl⟩ (by kernel_rfl) (by kernel_rfl) rfl ?_
      simp only [pickB, List.filterMap_cons, List.filterMap_nil, List.getElem?_toArray, List.getElem?_cons_succ, List.getElem?_cons_zero, Option.map_some]
      repeat (refine wpHd_step (fun K hK => ?_); go_simp; first | (refine hK _ ?_; clear hK K) | (apply Exists.intro; refine ⟨fun _ => ?_, hK _ ?_⟩; rfl; clear hK K))
      refine wpHd_nil ?_
      refine wpAnyT_line [9, 10] _ _ _ (by kernel_rfl) ?_
      simp only [pick, List.filterMap_cons, List.filterMap_nil, List.getElem?_toArray, List.getElem?_cons_succ, List.getElem?_cons_zero]
      have B5 := HB4.out.trans (hb5.mono HB4.out.size)
      have HO5 := Lib.hid (ownsRow_below (show w4.drew.ownsRow _ _ _ _ _ _ from HO4.out) hb5)
      obtain ⟨a5, k5, rfl, -, -, hr5⟩ := Rd.of_owns hown5
      have HR5 := Lib.hid (Rd.toK (show Rd (.int .u32) w5 a5 (F (q1, q2, q3, q4, q5)) from hr5))
      have hbs : w1.heap.size ≤ w5.heap.size := B5.size
      have HB5 := Lib.hid B5
      generalize F (q1, q2, q3, q4, q5) = M at *
      have hLM : L.length + M.length ≤ 60000 := by
        have : i * 20000 ≤ 20000 := by have : i ≤ 1 := by omega
                                       omega
        omega
      clear hr5 hown5 hb5 HX4 HB4 HO4 CY g0 g1 g2 g3 g4 g5 B5
      have hh1 : L.length + M.length ≤ maxLen := by unfold maxLen; omega
      have hh2 : (L.length + M.length) * 4 ≤ 140737488355328 := by omega
      go_wp2_with (at_builtin; refine wp_appendK elU32 (enc := fun x => [Value.int .u32 x]) (fun _ => rfl) (fun x u hu => by simp at hu; subst hu; rfl) w1.heap.size HO5.out HR5.out rfl _ _ rfl rfl k5 rfl hh1 hh2 hbs ?_; intro v6 w6 hown6 hg6; have b6 := below_grown HB5.out HO5.out hg6 hbs (Nat.le_refl _))
      go_roundw
      case rel =>
        refine ⟨i + 1, c + c5, by go_num, by omega, ?_, ?_, ?_, ?_, b6⟩
        · rw [Nat.succ_mul]; omega
        · rw [FT.out, List.length_append]; first | go_num | (simp only [Value.int.injEq, true_and]; omega)
        · show World.ownsRow _ _ _ _ _ _ _
          rw [FT.out, List.length_append, List.map_append]
          have e2 : M.map (Value.int .u32) = M.flatMap (fun x => [Value.int .u32 x]) := map_flat _ M
          rw [e2]
          exact hown6
        · rw [FT.out, List.length_append]; omega
      case measure => simp [intOf]; omega
    · obtain rfl : i = BL.length := by omega
      rw [List.take_length, ← HTT.out] at *
      have hle : T.length ≤ 1000000 := by omega
      have CS := Lib.hid (sortU32 HO.out hle)
      have HOO := Lib.hid HO.out
      clear hle
      go_wp2_with (go_at_call 62; refine CS.out.mono ?_; rintro e w6 ⟨rfl, hown6, hk6⟩; have b6 := hb.trans (hk6.toBelow hb.size (fun k h => (HOO.out.lt k h).1)))
      go_ret2
      exact ⟨_, c, rfl, hci, by rw [srtI_len]; exact hown6, b6⟩
end Go.Proofs.YthplgcakhniidaaGreat
