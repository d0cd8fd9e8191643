/- low: container/heap.down over the queue. -/
import Derived.Test.YtggfdlanobndjaaGreatLwL
namespace Go.Proofs.YtggfdlanobndjaaGreat
open Go.RowKit Go.Sort Go.Shelf Go.Lib Go.Maps
attribute [local irreducible] wpQuiet
set_option linter.unusedSimpArgs false
set_option linter.unusedVariables false

set_option maxRecDepth 100000 in
set_option maxHeartbeats 8000000 in
theorem que_down {w : World} {lo hi tb fb qb base n m : Nat} {cnt : Int} {R : List Pt} {gone : List Bool} {YS : List Nat} {V : HepV} {qv : Value} (f : Qf) (hA : LptAt w lo hi tb fb R (bst (nds R.length) YS) cnt V) (hW : CscWF R gone YS) (hR : R.length ≤ 20000) (hhi : hi ≤ base) (H : QuAt w tb qb base (qrow f m) qv) (hm : m ≤ 1000000) (hnm : n ≤ m) (hQ : QNod R YS (qrow f m)) (i0 : Nat) (hi0 : i0 < m) :
    Calls Tryz.prog 97 #[.iface 128 (.pointer (some ⟨qb, 0, none⟩)), .int .i64 i0, .int .i64 n] w fun e w' => (∃ b : Bool, e = .returned (.bool b)) ∧ QuAt w' tb qb base (qrow (dnF (lbQ R (nds R.length) YS) f i0 n) m) qv ∧ KpS (fun g => qv.ownBlock = some g) w w' := by
  have mL := rch_Less qb
  have mS := rch_Swap qb
  have eL := ent_qLess
  have eS := ent_qSwap
  have HA := Lib.hid hA
  have HW := Lib.hid hW
  have HH := Lib.hid H
  have HQ := Lib.hid hQ
  clear hA hW H hQ
  generalize hlb : lbQ R (nds R.length) YS = lb at *
  have HLB := Lib.hid hlb
  clear hlb
  go_enter Tryz.func97, Tryz.ntmps97
  go_wp2
  go_loopw [7] (fun iv wr => ∃ (i : Nat) (g : Qf), iv = .int .i64 i ∧ i < m ∧ Hid (dnF lb g i n = dnF lb f i0 n) ∧ Hid (QuAt wr tb qb base (qrow g m) qv) ∧ Hid (QNod R YS (qrow g m)) ∧ Hid (KpS (fun b => qv.ownBlock = some b) w wr)) (fun iv _ => m - (intOf iv).toNat)
  case atStart => exact ⟨i0, f, rfl, hi0, rfl, HH, HQ, Lib.hid (KpS.refl _ _)⟩
  case round =>
    obtain ⟨i, g, rfl, hi', HU, HQr, HNr, HKr⟩ := hrel
    have hql : (qrow g m).length = m := by simp [qrow]
    by_cases hA1 : 2 * i + 1 < n
    · have f1 : decide ((n : Int) ≤ 2 * (i : Int) + 1) = false := by simp; omega
      have f2 : decide (2 * (i : Int) + 1 < 0) = false := by simp; omega
      by_cases hB1 : 2 * i + 2 < n
      · have f3 : decide (2 * (i : Int) + 1 + 1 < (n : Int)) = true := by simp; omega
        have f4 : decide (2 * (i : Int) + 2 < (n : Int)) = true := by simp; omega
        have hAr := HA.out.kept HKr.out (fun k h1 h2 h3 => by have := (HH.out.row.lt k h3).1; omega)
        have CL1 := Lib.hid (que_less hAr HW.out hR HQr.out (by omega) (fun k hk => (HNr.out k hk).1) (fun k hk => (HNr.out k hk).2) (2 * i + 2) (2 * i + 1) (by omega) (by omega))
        have e1 : (qrow g m)[2 * i + 2]'(by omega) = g (2 * i + 2) := by simp [qrow]
        have e2 : (qrow g m)[2 * i + 1]'(by omega) = g (2 * i + 1) := by simp [qrow]
        rw [e1, e2, HLB.out] at CL1
        clear e1 e2 hAr
        rcases hb8 : lb (g (2 * i + 2)) (g (2 * i + 1)) with _ | _
        · rw [hb8] at CL1
          have HLK : Hid (lsk lb g i n = 2 * i + 1) := by show _ = _; unfold lsk; rw [if_neg (by rw [hb8]; simp)]
          have CL2 := Lib.hid (fun W (H : QuAt W tb qb base (qrow g m) qv) (hK : KpS (fun b => qv.ownBlock = some b) w W) => que_less (HA.out.kept hK (fun k h1 h2 h3 => by have := (HH.out.row.lt k h3).1; omega)) HW.out hR H (by omega) (fun k hk => (HNr.out k hk).1) (fun k hk => (HNr.out k hk).2) (2 * i + 1) i (by omega) (by omega))
          have e3 : (qrow g m)[2 * i + 1]'(by omega) = g (2 * i + 1) := by simp [qrow]
          have e4 : (qrow g m)[i]'(by omega) = g i := by simp [qrow]
          rw [e3, e4, HLB.out] at CL2
          have CS := Lib.hid (fun W (H : QuAt W tb qb base (qrow g m) qv) => que_swap H (by omega) i (2 * i + 1) (by omega) (by omega))
          have HRW : Hid (swL (qrow g m) i (2 * i + 1) (by omega) (by omega) = qrow (swp g i (2 * i + 1)) m) := swL_row g _ _
          rw [HRW.out] at CS
          have HDN : Hid (dnF lb g i n = if lb (g (2 * i + 1)) (g i) = true then dnF lb (swp g i (2 * i + 1)) (2 * i + 1) n else g) := by
            show _ = _
            conv => lhs; unfold dnF
            rw [HLK.out]
            by_cases h9 : lb (g (2 * i + 1)) (g i) = true
            · rw [dif_pos ⟨hA1, h9⟩, if_pos h9]
            · rw [dif_neg (fun h => h9 h.2), if_neg h9]
          have HNS : Hid (QNod R YS (qrow (swp g i (2 * i + 1)) m)) := fun k hk => HNr.out k ((swp_perm g (by omega) (by omega)).mem_iff.1 hk)
          clear e3 e4 HRW HLK
          rcases hb9 : lb (g (2 * i + 1)) (g i) with _ | _
          · rw [hb9] at CL2
            have hdn := HDN.out
            rw [if_neg (by rw [hb9]; simp)] at hdn
            have HDD := Lib.hid hdn
            clear hb9 hdn
            go_wp2_with fail
            refine CL1.out.mono ?_
            rintro e w4 ⟨rfl, hb4⟩
            have HQX := Lib.hid (HQr.out.below hb4)
            have HKX := Lib.hid (HKr.out.below hb4)
            clear hb4 CL1
            go_wp2_with fail
            refine (CL2.out _ HQX.out HKX.out).mono ?_
            rintro e w5 ⟨rfl, hb5⟩
            have HFIN : Hid (QuAt w5 tb qb base (qrow (dnF lb f i0 n) m) qv ∧ KpS (fun b => qv.ownBlock = some b) w w5) := by
              refine ⟨?_, HKX.out.below hb5⟩
              rw [← HU.out, HDD.out]
              exact HQX.out.below hb5
            clear hb5 CL2
            go_wp2
            go_ret
            exact ⟨⟨_, rfl⟩, HFIN.out.1, HFIN.out.2⟩
          · rw [hb9] at CL2
            have hdn := HDN.out
            rw [if_pos hb9] at hdn
            have HUU : Hid (dnF lb (swp g i (2 * i + 1)) (2 * i + 1) n = dnF lb f i0 n) := by show _ = _; rw [← hdn]; exact HU.out
            clear hb9 hdn
            go_wp2_with fail
            refine CL1.out.mono ?_
            rintro e w4 ⟨rfl, hb4⟩
            have HQX := Lib.hid (HQr.out.below hb4)
            have HKX := Lib.hid (HKr.out.below hb4)
            clear hb4 CL1
            go_wp2_with fail
            refine (CL2.out _ HQX.out HKX.out).mono ?_
            rintro e w5 ⟨rfl, hb5⟩
            have HQ5 := Lib.hid (HQX.out.below hb5)
            have HK5 := Lib.hid (HKX.out.below hb5)
            clear hb5 CL2
            go_wp2_with fail
            refine (CS.out w5 HQ5.out).mono ?_
            rintro e w6 ⟨rfl, hQ6, hK6⟩
            have HQ6 := Lib.hid hQ6
            have HK6 := Lib.hid (HK5.out.trans hK6)
            clear hQ6 hK6
            go_wp2
            go_roundw
            case rel => first | exact ⟨2 * i + 1, _, by go_num, by omega, HUU, HQ6, HNS, HK6⟩ | (refine ⟨_, ?_, rfl⟩; exact ⟨2 * i + 1, _, by go_num, by omega, HUU, HQ6, HNS, HK6⟩) | (refine ⟨_, _, ?_, rfl, rfl⟩; exact ⟨2 * i + 1, _, by go_num, by omega, HUU, HQ6, HNS, HK6⟩) | (refine ⟨_, _, _, ?_, rfl, rfl, rfl⟩; exact ⟨2 * i + 1, _, by go_num, by omega, HUU, HQ6, HNS, HK6⟩) | (refine ⟨_, _, _, _, ?_, rfl, rfl, rfl, rfl⟩; exact ⟨2 * i + 1, _, by go_num, by omega, HUU, HQ6, HNS, HK6⟩)
            case measure => simp [intOf]; omega
        · rw [hb8] at CL1
          have HLK : Hid (lsk lb g i n = 2 * i + 2) := by show _ = _; unfold lsk; rw [if_pos ⟨hB1, hb8⟩]
          have CL2 := Lib.hid (fun W (H : QuAt W tb qb base (qrow g m) qv) (hK : KpS (fun b => qv.ownBlock = some b) w W) => que_less (HA.out.kept hK (fun k h1 h2 h3 => by have := (HH.out.row.lt k h3).1; omega)) HW.out hR H (by omega) (fun k hk => (HNr.out k hk).1) (fun k hk => (HNr.out k hk).2) (2 * i + 2) i (by omega) (by omega))
          have e3 : (qrow g m)[2 * i + 2]'(by omega) = g (2 * i + 2) := by simp [qrow]
          have e4 : (qrow g m)[i]'(by omega) = g i := by simp [qrow]
          rw [e3, e4, HLB.out] at CL2
          have CS := Lib.hid (fun W (H : QuAt W tb qb base (qrow g m) qv) => que_swap H (by omega) i (2 * i + 2) (by omega) (by omega))
          have HRW : Hid (swL (qrow g m) i (2 * i + 2) (by omega) (by omega) = qrow (swp g i (2 * i + 2)) m) := swL_row g _ _
          rw [HRW.out] at CS
          have HDN : Hid (dnF lb g i n = if lb (g (2 * i + 2)) (g i) = true then dnF lb (swp g i (2 * i + 2)) (2 * i + 2) n else g) := by
            show _ = _
            conv => lhs; unfold dnF
            rw [HLK.out]
            by_cases h9 : lb (g (2 * i + 2)) (g i) = true
            · rw [dif_pos ⟨hA1, h9⟩, if_pos h9]
            · rw [dif_neg (fun h => h9 h.2), if_neg h9]
          have HNS : Hid (QNod R YS (qrow (swp g i (2 * i + 2)) m)) := fun k hk => HNr.out k ((swp_perm g (by omega) (by omega)).mem_iff.1 hk)
          clear e3 e4 HRW HLK
          rcases hb9 : lb (g (2 * i + 2)) (g i) with _ | _
          · rw [hb9] at CL2
            have hdn := HDN.out
            rw [if_neg (by rw [hb9]; simp)] at hdn
            have HDD := Lib.hid hdn
            clear hb9 hdn
            go_wp2_with fail
            refine CL1.out.mono ?_
            rintro e w4 ⟨rfl, hb4⟩
            have HQX := Lib.hid (HQr.out.below hb4)
            have HKX := Lib.hid (HKr.out.below hb4)
            clear hb4 CL1
            go_wp2_with fail
            refine (CL2.out _ HQX.out HKX.out).mono ?_
            rintro e w5 ⟨rfl, hb5⟩
            have HFIN : Hid (QuAt w5 tb qb base (qrow (dnF lb f i0 n) m) qv ∧ KpS (fun b => qv.ownBlock = some b) w w5) := by
              refine ⟨?_, HKX.out.below hb5⟩
              rw [← HU.out, HDD.out]
              exact HQX.out.below hb5
            clear hb5 CL2
            go_wp2
            go_ret
            exact ⟨⟨_, rfl⟩, HFIN.out.1, HFIN.out.2⟩
          · rw [hb9] at CL2
            have hdn := HDN.out
            rw [if_pos hb9] at hdn
            have HUU : Hid (dnF lb (swp g i (2 * i + 2)) (2 * i + 2) n = dnF lb f i0 n) := by show _ = _; rw [← hdn]; exact HU.out
            clear hb9 hdn
            go_wp2_with fail
            refine CL1.out.mono ?_
            rintro e w4 ⟨rfl, hb4⟩
            have HQX := Lib.hid (HQr.out.below hb4)
            have HKX := Lib.hid (HKr.out.below hb4)
            clear hb4 CL1
            go_wp2_with fail
            refine (CL2.out _ HQX.out HKX.out).mono ?_
            rintro e w5 ⟨rfl, hb5⟩
            have HQ5 := Lib.hid (HQX.out.below hb5)
            have HK5 := Lib.hid (HKX.out.below hb5)
            clear hb5 CL2
            go_wp2_with fail
            refine (CS.out w5 HQ5.out).mono ?_
            rintro e w6 ⟨rfl, hQ6, hK6⟩
            have HQ6 := Lib.hid hQ6
            have HK6 := Lib.hid (HK5.out.trans hK6)
            clear hQ6 hK6
            go_wp2
            go_roundw
            case rel => first | exact ⟨2 * i + 2, _, by go_num, by omega, HUU, HQ6, HNS, HK6⟩ | (refine ⟨_, ?_, rfl⟩; exact ⟨2 * i + 2, _, by go_num, by omega, HUU, HQ6, HNS, HK6⟩) | (refine ⟨_, _, ?_, rfl, rfl⟩; exact ⟨2 * i + 2, _, by go_num, by omega, HUU, HQ6, HNS, HK6⟩) | (refine ⟨_, _, _, ?_, rfl, rfl, rfl⟩; exact ⟨2 * i + 2, _, by go_num, by omega, HUU, HQ6, HNS, HK6⟩) | (refine ⟨_, _, _, _, ?_, rfl, rfl, rfl, rfl⟩; exact ⟨2 * i + 2, _, by go_num, by omega, HUU, HQ6, HNS, HK6⟩)
            case measure => simp [intOf]; omega
      · have f3 : decide (2 * (i : Int) + 1 + 1 < (n : Int)) = false := by simp; omega
        have f4 : decide (2 * (i : Int) + 2 < (n : Int)) = false := by simp; omega
        have HLK : Hid (lsk lb g i n = 2 * i + 1) := by show _ = _; unfold lsk; rw [if_neg (fun h => hB1 h.1)]
        have CL2 := Lib.hid (fun W (H : QuAt W tb qb base (qrow g m) qv) (hK : KpS (fun b => qv.ownBlock = some b) w W) => que_less (HA.out.kept hK (fun k h1 h2 h3 => by have := (HH.out.row.lt k h3).1; omega)) HW.out hR H (by omega) (fun k hk => (HNr.out k hk).1) (fun k hk => (HNr.out k hk).2) (2 * i + 1) i (by omega) (by omega))
        have e3 : (qrow g m)[2 * i + 1]'(by omega) = g (2 * i + 1) := by simp [qrow]
        have e4 : (qrow g m)[i]'(by omega) = g i := by simp [qrow]
        rw [e3, e4, HLB.out] at CL2
        have CS := Lib.hid (fun W (H : QuAt W tb qb base (qrow g m) qv) => que_swap H (by omega) i (2 * i + 1) (by omega) (by omega))
        have HRW : Hid (swL (qrow g m) i (2 * i + 1) (by omega) (by omega) = qrow (swp g i (2 * i + 1)) m) := swL_row g _ _
        rw [HRW.out] at CS
        have HDN : Hid (dnF lb g i n = if lb (g (2 * i + 1)) (g i) = true then dnF lb (swp g i (2 * i + 1)) (2 * i + 1) n else g) := by
          show _ = _
          conv => lhs; unfold dnF
          rw [HLK.out]
          by_cases h9 : lb (g (2 * i + 1)) (g i) = true
          · rw [dif_pos ⟨hA1, h9⟩, if_pos h9]
          · rw [dif_neg (fun h => h9 h.2), if_neg h9]
        have HNS : Hid (QNod R YS (qrow (swp g i (2 * i + 1)) m)) := fun k hk => HNr.out k ((swp_perm g (by omega) (by omega)).mem_iff.1 hk)
        clear e3 e4 HRW HLK
        rcases hb9 : lb (g (2 * i + 1)) (g i) with _ | _
        · rw [hb9] at CL2
          have hdn := HDN.out
          rw [if_neg (by rw [hb9]; simp)] at hdn
          have HDD := Lib.hid hdn
          clear hb9 hdn
          have HQX := HQr
          have HKX := HKr
          go_wp2_with fail
          refine (CL2.out _ HQX.out HKX.out).mono ?_
          rintro e w5 ⟨rfl, hb5⟩
          have HFIN : Hid (QuAt w5 tb qb base (qrow (dnF lb f i0 n) m) qv ∧ KpS (fun b => qv.ownBlock = some b) w w5) := by
            refine ⟨?_, HKX.out.below hb5⟩
            rw [← HU.out, HDD.out]
            exact HQX.out.below hb5
          clear hb5 CL2
          go_wp2
          go_ret
          exact ⟨⟨_, rfl⟩, HFIN.out.1, HFIN.out.2⟩
        · rw [hb9] at CL2
          have hdn := HDN.out
          rw [if_pos hb9] at hdn
          have HUU : Hid (dnF lb (swp g i (2 * i + 1)) (2 * i + 1) n = dnF lb f i0 n) := by show _ = _; rw [← hdn]; exact HU.out
          clear hb9 hdn
          have HQX := HQr
          have HKX := HKr
          go_wp2_with fail
          refine (CL2.out _ HQX.out HKX.out).mono ?_
          rintro e w5 ⟨rfl, hb5⟩
          have HQ5 := Lib.hid (HQX.out.below hb5)
          have HK5 := Lib.hid (HKX.out.below hb5)
          clear hb5 CL2
          go_wp2_with fail
          refine (CS.out w5 HQ5.out).mono ?_
          rintro e w6 ⟨rfl, hQ6, hK6⟩
          have HQ6 := Lib.hid hQ6
          have HK6 := Lib.hid (HK5.out.trans hK6)
          clear hQ6 hK6
          go_wp2
          go_roundw
          case rel => first | exact ⟨2 * i + 1, _, by go_num, by omega, HUU, HQ6, HNS, HK6⟩ | (refine ⟨_, ?_, rfl⟩; exact ⟨2 * i + 1, _, by go_num, by omega, HUU, HQ6, HNS, HK6⟩) | (refine ⟨_, _, ?_, rfl, rfl⟩; exact ⟨2 * i + 1, _, by go_num, by omega, HUU, HQ6, HNS, HK6⟩) | (refine ⟨_, _, _, ?_, rfl, rfl, rfl⟩; exact ⟨2 * i + 1, _, by go_num, by omega, HUU, HQ6, HNS, HK6⟩) | (refine ⟨_, _, _, _, ?_, rfl, rfl, rfl, rfl⟩; exact ⟨2 * i + 1, _, by go_num, by omega, HUU, HQ6, HNS, HK6⟩)
          case measure => simp [intOf]; omega
    · have f1 : decide ((n : Int) ≤ 2 * (i : Int) + 1) = true := by simp; omega
      have HFIN : Hid (QuAt wr tb qb base (qrow (dnF lb f i0 n) m) qv ∧ KpS (fun b => qv.ownBlock = some b) w wr) := by
        refine ⟨?_, HKr.out⟩
        rw [← HU.out]
        unfold dnF
        rw [dif_neg (fun h => hA1 h.1)]
        exact HQr.out
      go_wp2
      go_ret
      exact ⟨⟨_, rfl⟩, HFIN.out.1, HFIN.out.2⟩
end Go.Proofs.YtggfdlanobndjaaGreat
