/- gridironref15.Same, gridironref15.Over. -/
import Derived.Test.YtpebefcmloablaaRfR
namespace Go.Proofs.Ytpebefcmloablaa
open Go.RowKit Go.Maps

theorem takeP_more {α : Type} (l l' : List α) (k : Nat) (h : l.take k = l'.take k) (h1 : k < l.length) (h2 : k < l'.length) (he : l[k] = l'[k]) : l.take (k + 1) = l'.take (k + 1) := by
  rw [List.take_succ_eq_append_getElem h1, List.take_succ_eq_append_getElem h2, h, he]

set_option maxRecDepth 100000 in
set_option maxHeartbeats 4000000 in
theorem ref_same (a a' : Option Addr) (l l' : List Pt) (n n' c c' : Nat) (w : World) (hn : l.length = n) (hn' : l'.length = n') (h : RdK ePt 3 w a l) (h' : RdK ePt 3 w a' l') (hl : n ≤ 1000000) (hl' : n' ≤ 1000000) :
    Calls Try.prog 17 #[.slice a n c, .slice a' n' c'] w fun e w' => e = .returned (.bool (decide (l = l'))) ∧ Below w.heap.size w w' := by
  subst hn hn'
  have HR := Lib.hid h
  have HR' := Lib.hid h'
  clear h h'
  generalize hr : decide (l = l') = r
  have HRR := Lib.hid hr
  clear hr
  by_cases hln : l.length = l'.length
  · have dl : ((l.length : Int) != (l'.length : Int)) = false := by simp [hln]
    have HLN := Lib.hid hln
    go_enter Try.func17, Try.ntmps17
    go_wp2
    go_loopw [5] (fun iv wr => ∃ k : Nat, iv = .int .i64 k ∧ k ≤ l.length ∧ Below w.heap.size w wr ∧ Hid (l.take k = l'.take k)) (fun iv _ => l.length - (intOf iv).toNat)
    case atStart => exact ⟨0, rfl, Nat.zero_le _, Below.refl _ _, rfl⟩
    case round =>
      obtain ⟨k, rfl, hk, hb, INV⟩ := hrel
      by_cases hlt : k < l.length
      · have hlt' : k < l'.length := by omega
        obtain ⟨b, off, ea, hbl, hcs⟩ := (HR.out.below hb).get (by omega)
        obtain ⟨b', off', ea', hbl', hcs'⟩ := (HR'.out.below hb).get (by omega)
        have x0 := hcs k hlt 0 (by omega)
        have x1 := hcs k hlt 1 (by omega)
        have x2 := hcs k hlt 2 (by omega)
        have y0 := hcs' k hlt' 0 (by omega)
        have y1 := hcs' k hlt' 1 (by omega)
        have y2 := hcs' k hlt' 2 (by omega)
        simp only [ePt, List.getElem?_cons_zero, List.getElem?_cons_succ, Nat.add_zero] at x0 x1 x2 y0 y1 y2
        have hkl : (k : Int) < (l.length : Int) := by omega
        have hkl' : (k : Int) < (l'.length : Int) := by omega
        have HNE : l[k] ≠ l'[k] → r = false := fun hne => by
          rw [← HRR.out]
          simp only [decide_eq_false_iff_not]
          intro e
          subst e
          exact hne rfl
        have HYE : l[k] = l'[k] → Hid (l.take (k + 1) = l'.take (k + 1)) := fun he => takeP_more l l' k INV.out hlt hlt' he
        have EA := Lib.hid ea
        have EA' := Lib.hid ea'
        clear hcs hcs' ea ea'
        generalize l[k] = p at *
        generalize l'[k] = q at *
        obtain ⟨px, py, pi⟩ := p
        obtain ⟨qx, qy, qi⟩ := q
        simp only at x0 x1 x2 y0 y1 y2
        obtain rfl := EA.out
        obtain rfl := EA'.out
        clear EA EA'
        by_cases h0 : px = qx
        · have d0 : (px == qx) = true := by simp [h0]
          by_cases h1 : py = qy
          · have d1 : (py == qy) = true := by simp [h1]
            by_cases h2 : pi = qi
            · have d2 : (pi == qi) = true := by simp [h2]
              have I2 := HYE (by rw [h0, h1, h2])
              clear h0 h1 h2 HNE HYE INV hln
              go_wp2
              go_region
              all_goals
                go_wp2
                go_roundw
                case rel => exact ⟨k + 1, by go_num, by omega, hb.drew, I2⟩
                case measure => simp [intOf]; omega
            · have hr := HNE (fun e => h2 (by injection e with _ e; injection e))
              subst hr
              clear h0 h1 HNE HYE HRR hln
              have d2 : (pi == qi) = false := by simp [h2]
              clear h2 INV
              go_wp2
              go_region
              all_goals
                go_wp2
                go_ret
                exact ⟨rfl, hb.drew⟩
          · have hr := HNE (fun e => h1 (by injection e with _ e; injection e))
            subst hr
            clear h0 HNE HYE HRR hln
            have d1 : (py == qy) = false := by simp [h1]
            clear h1 INV
            go_wp2
            go_region
            all_goals
              go_wp2
              go_ret
              exact ⟨rfl, hb.drew⟩
        · have hr := HNE (fun e => h0 (by injection e))
          subst hr
          clear HNE HYE HRR hln
          have d0 : (px == qx) = false := by simp [h0]
          clear h0 INV
          go_wp2
          go_region
          all_goals
            go_wp2
            go_ret
            exact ⟨rfl, hb.drew⟩
      · have hr : r = true := by
          rw [← HRR.out]
          have hk2 : k = l.length := by omega
          have := INV.out
          rw [hk2, List.take_length, HLN.out, List.take_length] at this
          simpa using this
        subst hr
        clear HRR
        go_wp2
        go_ret
        exact ⟨rfl, hb⟩
  · have dl : ((l.length : Int) != (l'.length : Int)) = true := by simp; omega
    have hr : r = false := by
      rw [← HRR.out]
      simp only [decide_eq_false_iff_not]
      intro e
      exact hln (by rw [e])
    subst hr
    clear HRR
    go_enter Try.func17, Try.ntmps17
    go_wp2
    go_ret
    exact ⟨rfl, Below.refl _ _⟩

end Go.Proofs.Ytpebefcmloablaa
