/- gridironlaw15.names, gridironlaw15.unlike. -/
import Derived.Test.YtpebefcmloablaaRfM
namespace Go.Proofs.Ytpebefcmloablaa
open Go.RowKit Go.Maps

set_option maxRecDepth 100000 in
set_option maxHeartbeats 2000000 in
theorem names_calls (a a' : Option Addr) (l : List Pt) (l' : List Int) (n n' c c' : Nat) (w : World) (hn : l.length = n) (hn' : l'.length = n') (h : RdK ePt 3 w a l) (h' : Rd (Value.int .u32) w a' l') (hl : n ≤ 1000000) (hl' : n' ≤ 1000000) :
    Calls Try.prog 38 #[.slice a n c, .slice a' n' c'] w fun e w' => e = .returned (.bool (decide (ids l = l'))) ∧ Below w.heap.size w w' := by
  subst hn hn'
  have HR := Lib.hid h
  have HR' := Lib.hid h'
  clear h h'
  generalize hr : decide (ids l = l') = r
  have HRR := Lib.hid hr
  clear hr
  by_cases hln : l.length = l'.length
  · have dl : ((l.length : Int) != (l'.length : Int)) = false := by simp [hln]
    have HLN := Lib.hid hln
    go_enter Try.func38, Try.ntmps38
    go_wp2
    go_loopw [13] (fun iv wr => ∃ k : Nat, iv = .int .i64 k ∧ k ≤ l.length ∧ Below w.heap.size w wr ∧ Hid ((ids l).take k = l'.take k)) (fun iv _ => l.length - (intOf iv).toNat)
    case atStart => exact ⟨0, rfl, Nat.zero_le _, Below.refl _ _, rfl⟩
    case round =>
      obtain ⟨k, rfl, hk, hb, INV⟩ := hrel
      by_cases hlt : k < l.length
      · have hlt' : k < l'.length := by omega
        obtain ⟨b, off, ea, hbl, hcs⟩ := (HR.out.below hb).get (by omega)
        obtain ⟨b', off', ea', hbl', hcs'⟩ := (HR'.out.below hb).get (by omega)
        have x2 := hcs k hlt 2 (by omega)
        have y2 := hcs' k hlt'
        simp only [ePt, List.getElem?_cons_zero, List.getElem?_cons_succ] at x2
        have hkl : (k : Int) < (l.length : Int) := by omega
        have hkl' : (k : Int) < (l'.length : Int) := by omega
        have hki : k < (ids l).length := by simpa [ids] using hlt
        have hie : (ids l)[k] = l[k].2.2 := by simp [ids]
        have HNE : l[k].2.2 ≠ l'[k] → r = false := fun hne => by
          rw [← HRR.out]
          simp only [decide_eq_false_iff_not]
          intro e
          apply hne
          rw [← hie]
          simp [e]
        have HYE : l[k].2.2 = l'[k] → Hid ((ids l).take (k + 1) = l'.take (k + 1)) := fun he => takeP_more (ids l) l' k INV.out hki hlt' (by rw [hie]; exact he)
        have EA := Lib.hid ea
        have EA' := Lib.hid ea'
        clear hcs hcs' ea ea' hie hki
        generalize l[k].2.2 = p at *
        generalize l'[k] = q at *
        obtain rfl := EA.out
        obtain rfl := EA'.out
        clear EA EA'
        by_cases h0 : p = q
        · have d0 : (p != q) = false := by simp [h0]
          have I2 := HYE h0
          clear h0 HNE HYE INV hln
          go_wp2
          go_region
          all_goals
            go_wp2
            go_roundw
            case rel => exact ⟨k + 1, by go_num, by omega, hb.drew, I2⟩
            case measure => simp [intOf]; omega
        · have d0 : (p != q) = true := by simp [h0]
          have hr := HNE h0
          subst hr
          clear h0 HNE HYE HRR hln INV
          go_wp2
          go_region
          all_goals
            go_wp2
            go_ret
            exact ⟨rfl, hb.drew⟩
      · have hr : r = true := by
          rw [← HRR.out]
          have hk2 : k = l.length := by omega
          have := INV.out
          rw [hk2, List.take_of_length_le (by simp [ids]), HLN.out, List.take_length] at this
          simpa using this
        subst hr
        clear HRR
        go_wp2
        go_ret
        exact ⟨rfl, hb⟩
  · have dl : ((l.length : Int) != (l'.length : Int)) = true := by simp; omega
    have hr : r = false := by
      rw [← HRR.out]
      simp only [decide_eq_false_iff_not]
      intro e
      exact hln (by rw [← e]; simp [ids])
    subst hr
    clear HRR
    go_enter Try.func38, Try.ntmps38
    go_wp2
    go_ret
    exact ⟨rfl, Below.refl _ _⟩

set_option maxRecDepth 100000 in
set_option maxHeartbeats 4000000 in
theorem unlike15 (a : Option Addr) (l : List Pt) (n c : Nat) (w : World) (hn : l.length = n) (h : RdK ePt 3 w a l) (hl : n ≤ 1000000) :
    Calls Try.prog 25 #[.slice a n c] w fun e w' => e = .returned (.bool (unl l)) ∧ Below w.heap.size w w' := by
  subst hn
  have HR := Lib.hid h
  clear h
  generalize hr : unl l = r
  have HRR := Lib.hid hr
  clear hr
  go_enter Try.func25, Try.ntmps25
  go_wp2
  go_loopw [7] (fun iv wr => ∃ i : Nat, iv = .int .i64 i ∧ i ≤ l.length ∧ Below w.heap.size w wr ∧ Hid (∀ j (_ : j < l.length) k (_ : k < j), j < i → l[j].2.2 ≠ l[k].2.2)) (fun iv _ => l.length - (intOf iv).toNat)
  case atStart => exact ⟨0, rfl, Nat.zero_le _, Below.refl _ _, fun j _ k _ h => absurd h (Nat.not_lt_zero _)⟩
  case round =>
    obtain ⟨i, rfl, hi, hb, INV⟩ := hrel
    by_cases hlt : i < l.length
    · obtain ⟨wo, ewo⟩ : ∃ wo : World, wo = wr := ⟨_, rfl⟩
      subst ewo
      go_wp2
      go_loopw [11] (fun kv wr => ∃ k : Nat, kv = .int .i64 k ∧ k ≤ i ∧ Below w.heap.size w wr ∧ Hid (∀ j (_ : j < l.length), j < k → l[i].2.2 ≠ l[j].2.2)) (fun kv _ => i - (intOf kv).toNat)
      case atStart => exact ⟨0, rfl, Nat.zero_le _, hb, fun j _ h => absurd h (Nat.not_lt_zero _)⟩
      case round =>
        obtain ⟨k, rfl, hk, hb2, INV2⟩ := hrel
        by_cases hki : k < i
        · obtain ⟨b, off, ea, hbl, hcs⟩ := (HR.out.below hb2).get (by omega)
          have x2 := hcs i hlt 2 (by omega)
          have y2 := hcs k (by omega) 2 (by omega)
          simp only [ePt, List.getElem?_cons_zero, List.getElem?_cons_succ] at x2 y2
          have hkl : (k : Int) < (l.length : Int) := by omega
          by_cases he : l[i].2.2 = l[k].2.2
          · have hu : r = false := HRR.out ▸ unl_no_of hlt hki he
            have d1 : (l[i].2.2 == l[k].2.2) = true := by simp [he]
            subst hu
            have EA := Lib.hid ea
            clear hcs ea he INV INV2 HRR
            generalize l[i].2.2 = p at *
            generalize l[k].2.2 = q at *
            obtain rfl := EA.out
            clear EA
            go_wp2
            go_region
            all_goals
              go_wp2
              go_ret
              exact ⟨rfl, hb2.drew⟩
          · have d1 : (l[i].2.2 == l[k].2.2) = false := by simp [he]
            have I3 : Hid (∀ j (_ : j < l.length), j < k + 1 → l[i].2.2 ≠ l[j].2.2) := fun j hjl hj => by
              rcases Nat.lt_succ_iff_lt_or_eq.1 hj with h | rfl
              · exact INV2.out j hjl h
              · exact he
            have EA := Lib.hid ea
            clear hcs ea he INV2
            generalize l[i].2.2 = p at *
            generalize l[k].2.2 = q at *
            obtain rfl := EA.out
            clear EA
            go_wp2
            go_region
            all_goals
              go_wp2
              go_roundw
              case rel => exact ⟨k + 1, by go_num, by omega, hb2.drew, I3⟩
              case measure => simp [intOf]; omega
        · obtain rfl : k = i := by omega
          have I3 : Hid (∀ j (_ : j < l.length) m (_ : m < j), j < k + 1 → l[j].2.2 ≠ l[m].2.2) := fun j hj m hm hjk => by
            rcases Nat.lt_succ_iff_lt_or_eq.1 hjk with h | rfl
            · exact INV.out j hj m hm h
            · exact INV2.out m (by omega) hm
          go_wp2
          go_roundw
          case rel => exact ⟨k + 1, by go_num, by omega, hb2, I3⟩
          case measure => simp [intOf]; omega
    · have hu : r = true := HRR.out ▸ (unl_yes_of fun i hi k hk => INV.out i hi k hk (by omega))
      subst hu
      clear HRR
      go_wp2
      go_ret
      exact ⟨rfl, hb⟩

end Go.Proofs.Ytpebefcmloablaa
