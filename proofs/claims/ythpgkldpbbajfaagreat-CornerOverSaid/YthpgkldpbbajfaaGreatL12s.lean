/- gridironlaw12.sameIDs: are two lists of names the same? -/
import Derived.Test.YthpgkldpbbajfaaGreatQ3
namespace Go.Proofs.YthpgkldpbbajfaaGreat
open Go.RowKit
attribute [local irreducible] wpQuiet
set_option linter.unusedSimpArgs false
set_option linter.unusedVariables false

set_option maxRecDepth 100000 in
set_option maxHeartbeats 4000000 in
theorem same12 (a a' : Option Addr) (l l' : List Int) (n n' c c' : Nat) (w : World) (hn : l.length = n) (hn' : l'.length = n') (h : Rd (.int .u32) w a l) (h' : Rd (.int .u32) w a' l') (hl : n ≤ 1000000) (hl' : n' ≤ 1000000) :
    Calls Tryz.prog 63 #[.slice a n c, .slice a' n' c'] w fun e w' => e = .returned (.bool (decide (l = l'))) ∧ Below w.heap.size w w' := by
  subst hn hn'
  have HR := Lib.hid h
  have HR' := Lib.hid h'
  clear h h'
  generalize hr : decide (l = l') = r
  have HRR := Lib.hid hr
  clear hr
  by_cases hln : l.length = l'.length
  · have dl : ((l.length : Int) != (l'.length : Int)) = false := by simp [hln]
    have HLN := Lib.hid hln
    clear hln
    go_enter Tryz.func63, Tryz.ntmps63
    go_wp2
    go_loopw [13] (fun iv wr => ∃ k : Nat, iv = .int .i64 k ∧ k ≤ l.length ∧ Below w.heap.size w wr ∧ Hid (l.take k = l'.take k)) (fun iv _ => l.length - (intOf iv).toNat)
    case atStart => exact ⟨0, rfl, Nat.zero_le _, Below.refl _ _, rfl⟩
    case round =>
      obtain ⟨k, rfl, hk, hb, INV⟩ := hrel
      by_cases hlt : k < l.length
      · have hlt' : k < l'.length := by have := HLN.out; omega
        obtain ⟨b, off, ea, hbl, hcs⟩ := (HR.out.below hb).get (by omega)
        obtain ⟨b', off', ea', hbl', hcs'⟩ := (HR'.out.below hb).get (by omega)
        have x0 := hcs k hlt
        have y0 := hcs' k hlt'
        have hkl : (k : Int) < (l.length : Int) := by omega
        have hkl' : (k : Int) < (l'.length : Int) := by omega
        have HNE : l[k] ≠ l'[k] → r = false := fun hne => by
          rw [← HRR.out]
          simp only [decide_eq_false_iff_not]
          intro e
          subst e
          exact hne rfl
        have HYE : l[k] = l'[k] → Hid (l.take (k + 1) = l'.take (k + 1)) := fun he => takeI_more l l' k INV.out hlt hlt' he
        have EA := Lib.hid ea
        have EA' := Lib.hid ea'
        clear hcs hcs' ea ea'
        generalize l[k] = px at *
        generalize l'[k] = qx at *
        obtain rfl := EA.out
        obtain rfl := EA'.out
        clear EA EA'
        by_cases h0 : px = qx
        · have d0 : (px != qx) = false := by simp [h0]
          have I2 := HYE h0
          clear h0 HNE HYE INV
          go_wp2
          go_region
          all_goals
            go_wp2
            go_roundw
            case rel => exact ⟨k + 1, by go_num, by omega, hb.drew, I2⟩
            case measure => simp [intOf]; omega
        · have d0 : (px != qx) = true := by simp [h0]
          have hr := HNE h0
          subst hr
          clear h0 HNE HYE HRR INV
          go_wp2
          go_region
          all_goals
            go_wp2
            go_ret
            exact ⟨rfl, hb.drew⟩
      · obtain rfl : k = l.length := by omega
        have e1 : r = true := by
          rw [← HRR.out, decide_eq_true_eq]
          have := INV.out
          rw [List.take_length, HLN.out, List.take_length] at this
          exact this
        subst e1
        clear INV HRR
        go_wp2
        go_ret
        exact ⟨rfl, hb⟩
  · have dl : ((l.length : Int) != (l'.length : Int)) = true := by simp; omega
    have e1 : r = false := by
      rw [← HRR.out, decide_eq_false_iff_not]
      rintro rfl
      exact hln rfl
    subst e1
    clear HRR hln
    go_enter Tryz.func63, Tryz.ntmps63
    go_wp2
    go_ret
    exact ⟨rfl, Below.refl _ _⟩
end Go.Proofs.YthpgkldpbbajfaaGreat
