/- gridironref10.Right, gridironlaw15.unlike: is no name there twice? -/
import Derived.Test.YtpebefcmloablaaSkyOf
namespace Go.Proofs.Ytpebefcmloablaa
open Go.RowKit Go.Maps

theorem unl_no_of {l : List Pt} {i k : Nat} (hi : i < l.length) (hk : k < i) (h : l[i].2.2 = l[k].2.2) : unl l = false := by
  rw [unl_no]
  intro hn
  have := List.pairwise_iff_getElem.1 hn k i (by simp [ids]; omega) (by simpa [ids] using hi) hk
  simp [ids] at this
  exact this h.symm
theorem unl_yes_of {l : List Pt} (h : ∀ i (hi : i < l.length) k (hk : k < i), l[i].2.2 ≠ l[k].2.2) : unl l = true := by
  rw [unl_iff]
  refine List.pairwise_iff_getElem.2 fun k i hk hi hki => ?_
  simp only [ids, List.length_map] at hk hi
  simp only [ids, List.getElem_map]
  exact fun e => h i hi k hki e.symm

set_option maxRecDepth 100000 in
set_option maxHeartbeats 2000000 in
theorem ref_right (a : Option Addr) (l : List Pt) (n c : Nat) (w : World) (hn : l.length = n) (h : RdK ePt 3 w a l) (hl : n ≤ 1000000) :
    Calls Try.prog 16 #[.slice a n c] w fun e w' => e = .returned (.bool (unl l)) ∧ Below w.heap.size w w' := by
  subst hn
  have HR := Lib.hid h
  clear h
  generalize hr : unl l = r
  have HRR := Lib.hid hr
  clear hr
  go_enter Try.func16, Try.ntmps16
  go_wp2
  go_loopw [3] (fun iv wr => ∃ i : Nat, iv = .int .i64 i ∧ i ≤ l.length ∧ Below w.heap.size w wr ∧ Hid (∀ j (_ : j < l.length) k (_ : k < j), j < i → l[j].2.2 ≠ l[k].2.2)) (fun iv _ => l.length - (intOf iv).toNat)
  case atStart => exact ⟨0, rfl, Nat.zero_le _, Below.refl _ _, fun j _ k _ h => absurd h (Nat.not_lt_zero _)⟩
  case round =>
    obtain ⟨i, rfl, hi, hb, INV⟩ := hrel
    by_cases hlt : i < l.length
    · obtain ⟨wo, ewo⟩ : ∃ wo : World, wo = wr := ⟨_, rfl⟩
      subst ewo
      go_wp2
      go_loopw [4] (fun kv wr => ∃ k : Nat, kv = .int .i64 k ∧ k ≤ i ∧ Below w.heap.size w wr ∧ Hid (∀ j (_ : j < l.length), j < k → l[i].2.2 ≠ l[j].2.2)) (fun kv _ => i - (intOf kv).toNat)
      case atStart => exact ⟨0, rfl, Nat.zero_le _, hb, fun j _ h => absurd h (Nat.not_lt_zero _)⟩
      case round =>
        obtain ⟨k, rfl, hk, hb2, INV2⟩ := hrel
        by_cases hki : k < i
        · obtain ⟨b, off, ea, hbl, hcs⟩ := (HR.out.below hb2).get (by omega)
          have x2 := hcs i hlt 2 (by omega)
          have y2 := hcs k (by omega) 2 (by omega)
          simp only [ePt, List.getElem?_cons_zero, List.getElem?_cons_succ] at x2 y2
          have hkl : (k : Int) < (l.length : Int) := by omega
          by_cases he : l[i].2.2 = l[k].2.2
          · have hu : r = false := HRR.out ▸ unl_no_of hlt hki he
            have d1 : (l[i].2.2 == l[k].2.2) = true := by simp [he]
            subst hu
            have EA := Lib.hid ea
            clear hcs ea he INV INV2 HRR
            generalize l[i].2.2 = p at *
            generalize l[k].2.2 = q at *
            obtain rfl := EA.out
            clear EA
            go_wp2
            go_region
            all_goals
              go_wp2
              go_ret
              exact ⟨rfl, hb2.drew⟩
          · have d1 : (l[i].2.2 == l[k].2.2) = false := by simp [he]
            have I3 : Hid (∀ j (_ : j < l.length), j < k + 1 → l[i].2.2 ≠ l[j].2.2) := fun j hjl hj => by
              rcases Nat.lt_succ_iff_lt_or_eq.1 hj with h | rfl
              · exact INV2.out j hjl h
              · exact he
            have EA := Lib.hid ea
            clear hcs ea he INV2
            generalize l[i].2.2 = p at *
            generalize l[k].2.2 = q at *
            obtain rfl := EA.out
            clear EA
            go_wp2
            go_region
            all_goals
              go_wp2
              go_roundw
              case rel => exact ⟨k + 1, by go_num, by omega, hb2.drew, I3⟩
              case measure => simp [intOf]; omega
        · obtain rfl : k = i := by omega
          have I3 : Hid (∀ j (_ : j < l.length) m (_ : m < j), j < k + 1 → l[j].2.2 ≠ l[m].2.2) := fun j hj m hm hjk => by
            rcases Nat.lt_succ_iff_lt_or_eq.1 hjk with h | rfl
            · exact INV.out j hj m hm h
            · exact INV2.out m (by omega) hm
          go_wp2
          go_roundw
          case rel => exact ⟨k + 1, by go_num, by omega, hb2, I3⟩
          case measure => simp [intOf]; omega
    · have hu : r = true := HRR.out ▸ (unl_yes_of fun i hi k hk => INV.out i hi k hk (by omega))
      subst hu
      clear HRR
      go_wp2
      go_ret
      exact ⟨rfl, hb⟩

end Go.Proofs.Ytpebefcmloablaa
