/- gridironlaw10: SameIDs, has, asked, awake. -/
import Derived.Test.YthpgkldpbbajfaaGreatQ3
import Derived.Test.YthpgkldpbbajfaaGreatQ7
import Derived.Test.YthpgkldpbbajfaaGreatQ5
import Derived.Test.YthpgkldpbbajfaaGreatBan
import Derived.Deep.CutRange
import Derived.Deep.RegionWith
namespace Go.Proofs.YthpgkldpbbajfaaGreat
open Go.RowKit Go.Maps
attribute [local irreducible] wpQuiet
attribute [local go_sem] Oper.still1
set_option linter.unusedSimpArgs false
set_option linter.unusedVariables false

set_option maxRecDepth 100000 in
set_option maxHeartbeats 4000000 in
theorem same10 (a a' : Option Addr) (l l' : List Int) (n n' c c' : Nat) (w : World) (hn : l.length = n) (hn' : l'.length = n') (h : Rd (.int .u32) w a l) (h' : Rd (.int .u32) w a' l') (hl : n ≤ 1000000) (hl' : n' ≤ 1000000) :
    Calls Tryz.prog 36 #[.slice a n c, .slice a' n' c'] w fun e w' => e = .returned (.bool (decide (l = l'))) ∧ Below w.heap.size w w' := by
  subst hn hn'
  have HR := Lib.hid h
  have HR' := Lib.hid h'
  clear h h'
  generalize hr : decide (l = l') = r
  have HRR := Lib.hid hr
  clear hr
  by_cases hln : l.length = l'.length
  · have dl : ((l.length : Int) != (l'.length : Int)) = false := by simp [hln]
    have HLN := Lib.hid hln
    clear hln
    go_enter Tryz.func36, Tryz.ntmps36
    go_wp2
    go_loopw [13] (fun iv wr => ∃ k : Nat, iv = .int .i64 k ∧ k ≤ l.length ∧ Below w.heap.size w wr ∧ Hid (l.take k = l'.take k)) (fun iv _ => l.length - (intOf iv).toNat)
    case atStart => exact ⟨0, rfl, Nat.zero_le _, Below.refl _ _, rfl⟩
    case round =>
      obtain ⟨k, rfl, hk, hb, INV⟩ := hrel
      by_cases hlt : k < l.length
      · have hlt' : k < l'.length := by have := HLN.out; omega
        obtain ⟨b, off, ea, hbl, hcs⟩ := (HR.out.below hb).get (by omega)
        obtain ⟨b', off', ea', hbl', hcs'⟩ := (HR'.out.below hb).get (by omega)
        have x0 := hcs k hlt
        have y0 := hcs' k hlt'
        have hkl : (k : Int) < (l.length : Int) := by omega
        have hkl' : (k : Int) < (l'.length : Int) := by omega
        have HNE : l[k] ≠ l'[k] → r = false := fun hne => by
          rw [← HRR.out]
          simp only [decide_eq_false_iff_not]
          intro e
          subst e
          exact hne rfl
        have HYE : l[k] = l'[k] → Hid (l.take (k + 1) = l'.take (k + 1)) := fun he => takeI_more l l' k INV.out hlt hlt' he
        have EA := Lib.hid ea
        have EA' := Lib.hid ea'
        clear hcs hcs' ea ea'
        generalize l[k] = px at *
        generalize l'[k] = qx at *
        obtain rfl := EA.out
        obtain rfl := EA'.out
        clear EA EA'
        by_cases h0 : px = qx
        · have d0 : (px != qx) = false := by simp [h0]
          have I2 := HYE h0
          clear h0 HNE HYE INV
          go_wp2
          go_region
          all_goals
            go_wp2
            go_roundw
            case rel => exact ⟨k + 1, by go_num, by omega, hb.drew, I2⟩
            case measure => simp [intOf]; omega
        · have d0 : (px != qx) = true := by simp [h0]
          have hr := HNE h0
          subst hr
          clear h0 HNE HYE HRR INV
          go_wp2
          go_region
          all_goals
            go_wp2
            go_ret
            exact ⟨rfl, hb.drew⟩
      · obtain rfl : k = l.length := by omega
        have e1 : r = true := by
          rw [← HRR.out, decide_eq_true_eq]
          have := INV.out
          rw [List.take_length, HLN.out, List.take_length] at this
          exact this
        subst e1
        clear INV HRR
        go_wp2
        go_ret
        exact ⟨rfl, hb⟩
  · have dl : ((l.length : Int) != (l'.length : Int)) = true := by simp; omega
    have e1 : r = false := by
      rw [← HRR.out, decide_eq_false_iff_not]
      rintro rfl
      exact hln rfl
    subst e1
    clear HRR hln
    go_enter Tryz.func36, Tryz.ntmps36
    go_wp2
    go_ret
    exact ⟨rfl, Below.refl _ _⟩

/-- has: does a tree tell just these of a box? -/
def hasQ (l : List Pt) (x1 x2 y1 y2 : Int) (l' : List Int) : Bool := decide (hasB l x1 x2 y1 y2 = l')
set_option maxRecDepth 100000 in
set_option maxHeartbeats 1000000 in
theorem has10 {w : World} {lo hi tb n0 : Nat} {l : List Pt} (hT : BanAt w lo hi tb n0 l) (x1 x2 y1 y2 bi : Int) (a' : Option Addr) (l' : List Int) (n' c' : Nat) (hn' : l'.length = n') (h' : Rd (.int .u32) w a' l') (hl' : n' ≤ 1000000) :
    Calls Tryz.prog 84 #[.pointer (some ⟨tb, 0, none⟩), .agg #[.int .i64 x1, .int .i64 x2, .int .i64 y1, .int .i64 y2, .int .u32 bi], .slice a' n' c'] w fun e w' => e = .returned (.bool (hasQ l x1 x2 y1 y2 l')) ∧ Below w.heap.size w w' := by
  have few := hT.few2
  have hgl : (hasB l x1 x2 y1 y2).length ≤ 20000 := by rw [hasB_len]; exact Nat.le_trans (List.length_filter_le _ _) (by omega)
  have HLF : Hid ((hasB l x1 x2 y1 y2).length = (l.filter (inB x1 x2 y1 y2)).length) := hasB_len ..
  have HT := Lib.hid hT
  have H' := Lib.hid h'
  have HN' := Lib.hid hn'
  clear hT h' hn'
  obtain ⟨w1, ew1⟩ : ∃ w1, w1 = w.alloc (.cells #[.int .i64 x1, .int .i64 x2, .int .i64 y1, .int .i64 y2, .int .u32 bi] 51) := ⟨_, rfl⟩
  have hb1 : Below w.heap.size w w1 := by rw [ew1]; exact (Below.refl _ _).alloc (Nat.le_refl _) _
  have X1 : w1.heap[w.heap.size]? = some (objBx (x1, x2, y1, y2, bi)) := by rw [ew1]; exact lit0 w _
  obtain ⟨y0, y1', y2', y3, y4⟩ := objBx_cells X1
  simp only at y0 y1' y2' y3 y4
  have hT1 := HT.out.below hb1 HT.out.hi_le
  have HB1 := Lib.hid hb1
  have HT1 := Lib.hid hT1
  have HX1 := Lib.hid X1
  clear X1 hb1 hT1 HT
  go_enter Tryz.func84, Tryz.ntmps84
  go_upto_region 1 with fail
  rw [← ew1]
  clear ew1
  go_wp2_with fail
  refine (bReport HT1.out x1 x2 y1 y2 bi).mono ?_
  rintro e w2 ⟨v2, c2, rfl, -, hown2, hb2⟩
  obtain ⟨a2, k2, rfl, -, -, hr2⟩ := Rd.of_owns hown2
  have X2 := (hb2.block _ (Array.getElem?_eq_some_iff.1 HX1.out).1).trans HX1.out
  have HX2 := Lib.hid X2
  have HT2 := Lib.hid (HT1.out.below hb2 HT1.out.hi_le)
  have HB2 := Lib.hid (HB1.out.trans (hb2.mono HB1.out.size))
  have HR2 := Lib.hid hr2
  obtain ⟨z0, z1, z2, z3, z4⟩ := objBx_cells X2
  simp only at z0 z1 z2 z3 z4
  clear y0 y1' y2' y3 y4 X2 hb2 hr2 hown2 HX1
  go_wp2_with fail
  refine (bCount HT2.out x1 x2 y1 y2 bi).mono ?_
  rintro e w3 ⟨⟨c3, rfl, -⟩, hb3⟩
  have HB3 := Lib.hid (HB2.out.trans (hb3.mono HB2.out.size))
  have HR3 := Lib.hid (HR2.out.below hb3)
  rw [← HLF.out]
  clear z0 z1 z2 z3 z4 hb3 HT1 HT2 HX2 HLF
  generalize hN : hasB l x1 x2 y1 y2 = N at *
  have CS := Lib.hid (same10 a2 a' N l' N.length n' k2 c' w3 rfl HN'.out HR3.out (H'.out.below HB3.out) (by omega) hl')
  by_cases he : N = l'
  · have hd : decide (N = l') = true := by simp [he]
    have hlen : N.length = n' := by rw [he]; exact HN'.out
    rw [hd] at CS
    have HQ : Hid (hasQ l x1 x2 y1 y2 l' = true) := by show decide _ = true; rw [hN]; exact hd
    have hd2 : ((N.length : Int) == (n' : Int)) = true := by simp [hlen]
    clear hd he hN hlen
    go_wp2_with fail
    refine CS.out.mono ?_
    rintro e w4 ⟨rfl, hb4⟩
    have HB4 := Lib.hid (HB3.out.trans (hb4.mono HB3.out.size))
    clear hb4
    go_wp2
    go_ret
    rw [HQ.out]
    exact ⟨rfl, HB4.out⟩
  · have hd : decide (N = l') = false := by simp [he]
    rw [hd] at CS
    have HQ : Hid (hasQ l x1 x2 y1 y2 l' = false) := by show decide _ = false; rw [hN]; exact hd
    clear hd he hN
    go_wp2_with fail
    refine CS.out.mono ?_
    rintro e w4 ⟨rfl, hb4⟩
    have HB4 := Lib.hid (HB3.out.trans (hb4.mono HB3.out.size))
    clear hb4
    go_wp2
    go_ret
    rw [HQ.out]
    exact ⟨rfl, HB4.out⟩
end Go.Proofs.YthpgkldpbbajfaaGreat
