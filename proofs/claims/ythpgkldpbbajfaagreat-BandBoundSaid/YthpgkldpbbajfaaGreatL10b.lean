/- The law BandBound, walked. -/
import Derived.Test.YthpgkldpbbajfaaGreatL10w
import Derived.Test.YthpgkldpbbajfaaGreatQ7
import Derived.Test.YthpgkldpbbajfaaGreatQ3
import Derived.Test.YthpgkldpbbajfaaGreatQ5
namespace Go.Proofs.YthpgkldpbbajfaaGreat
open Go.RowKit Go.Maps
attribute [local irreducible] wpQuiet
set_option linter.unusedSimpArgs false
set_option linter.unusedVariables false

set_option maxRecDepth 100000 in
set_option maxHeartbeats 8000000 in
theorem wBandBound (a : Option Addr) (l : List Pt) (n c : Nat) (ab : Option Addr) (BL : List Bx) (nb kb : Nat) (b : Option Addr) (D : List Int) (m c' : Nat) (w : World) (hn : l.length = n) (h : RdK ePt 3 w a l) (hf : ∀ p ∈ l, (Lit.int .i64 p.1).wf = true ∧ (Lit.int .i64 p.2.1).wf = true ∧ (Lit.int .u32 p.2.2).wf = true)
    (hnb : BL.length = nb) (hB : RdK eBx 5 w ab BL) (hcb : nb ≤ kb ∧ kb ≤ maxLen) (hm : D.length = m) (h' : Rd (.int .u8) w b D) (hc' : m ≤ c' ∧ c' ≤ maxLen) (hD : ∀ x ∈ D, (Lit.int .u8 x).wf = true) :
    Calls Tryz.prog 11 #[.slice a n c, .slice ab nb kb, .slice b m c'] w fun e w' => e = .returned (.bool true) ∧ Below w.heap.size w w' := by
  subst hn hm hnb
  have hw : wfN l := fun p hp => (hf p hp).2.2
  have AW := Lib.hid (fun W => awake10 W)
  by_cases hlen : l.length ≤ 200
  · have dl : decide (200 < (l.length : Int)) = false := by simp; omega
    rcases Bool.eq_false_or_eq_true (unl l) with hu | hu
    · have cd := Lib.hid (bBuild a c l w h (by omega) hw hu)
      have HB := Lib.hid hB
      have HCB := Lib.hid hcb.1
      have HR := Lib.hid h
      have HR' := Lib.hid h'
      have HD := Lib.hid hD
      have hcd1 := hc'.1
      have cl := Lib.hid (fun W => rLog ((l.length : Int) + 1) W (by omega))
      have hlg := rkLog_succ l.length (by omega)
      have hl2 : Lib.bitLen l.length ≤ 8 := Nat.le_trans (bitLen_mono (show l.length ≤ 255 by omega) (by omega)) (by decide)
      generalize rkLog ((l.length : Int) + 1) = K at *
      have hK8 : K ≤ 8 := by omega
      have HBL : Hid (K = Lib.bitLen l.length) := by show _ = _; omega
      have DR := Lib.hid (fun (w : World) (lo hi cb n0 : Nat) (l' : List Pt) (h : BanAt w lo hi cb n0 l') p => bDrop h p)
      have WT := Lib.hid (fun (w : World) (lo hi tb : Nat) (l' : List Pt) (h : BanAt w lo hi tb l.length l') => bWeight h)
      rw [← HBL.out] at WT
      have hbm : bMost l.length = 4 * (K * K) + 12 * K + 12 := by unfold bMost; rw [← HBL.out]
      have hbc : bMostC l.length = 8 * (K * K) + 12 * K + 12 := by unfold bMostC; rw [← HBL.out]
      have hKK : K * K ≤ 64 := Nat.mul_le_mul hK8 hK8
      obtain ⟨M4, hM4, hM4'⟩ : ∃ M : Nat, 4 * (K : Int) * (K : Int) = (M : Int) ∧ M = 4 * (K * K) := ⟨4 * (K * K), by rw [Int.mul_assoc, ← Int.natCast_mul]; rfl, rfl⟩
      obtain ⟨M8, hM8, hM8'⟩ : ∃ M : Nat, 8 * (K : Int) * (K : Int) = (M : Int) ∧ M = 8 * (K * K) := ⟨8 * (K * K), by rw [Int.mul_assoc, ← Int.natCast_mul]; rfl, rfl⟩
      obtain ⟨MN, hMN, hMN'⟩ : ∃ M : Nat, (l.length : Int) * ((K : Int) + 1) = (M : Int) ∧ M = l.length * (K + 1) := ⟨l.length * (K + 1), rfl, rfl⟩
      have hMN2 : MN ≤ 1800 := by rw [hMN']; exact Nat.mul_le_mul hlen (show K + 1 ≤ 9 by omega)
      have hbm2 : bMost l.length = M4 + 12 * K + 12 := by omega
      have hbc2 : bMostC l.length = M8 + 12 * K + 12 := by omega
      have HM4 := Lib.hid hM4
      have HM8 := Lib.hid hM8
      have hM4b : M4 ≤ 256 := by omega
      have hM8b : M8 ≤ 512 := by omega
      have HBM := Lib.hid hbm2
      have HBC := Lib.hid hbc2
      have HMNe := Lib.hid hMN
      have HMN' := Lib.hid hMN'
      clear hD hw hf h h' hB hcb hu hc' hlg hl2 hbm hbc hKK hM4' hM8' hM4 hM8 hbm2 hbc2 hMN hMN'
      obtain ⟨mb, hmb, hmb1, hmb2⟩ : ∃ m : Nat, min (BL.length : Int) 20 = (m : Int) ∧ m ≤ BL.length ∧ m ≤ 20 := ⟨min BL.length 20, by omega, by omega, by omega⟩
      have HMB := Lib.hid hmb
      clear hmb
      obtain ⟨m, hm, hm1, hmm⟩ : ∃ m : Nat, min (D.length : Int) 100 = (m : Int) ∧ m ≤ D.length ∧ m ≤ 100 := ⟨min D.length 100, by omega, by omega, by omega⟩
      have HM := Lib.hid hm
      clear hm
      go_enter Tryz.func11, Tryz.ntmps11
      go_wp2_with fail
      refine cd.out.mono ?_
      rintro e w1 ⟨tb, rfl, hT1, hb1⟩
      have HT1 := Lib.hid hT1
      have HB1 := Lib.hid hb1
      clear hT1 cd hb1
      go_wp2_with fail
      refine (cl.out _).mono ?_
      rintro e w2 ⟨rfl, hb2⟩
      have HT2 := Lib.hid (HT1.out.below hb2 HT1.out.hi_le)
      have HB2 := Lib.hid (HB1.out.trans (hb2.mono HB1.out.size))
      clear hb2 HT1 cl
      go_wp2_with fail
      refine (WT.out _ _ _ _ _ HT2.out).mono ?_
      rintro e w3 ⟨⟨k3, rfl, hk3, hk3'⟩, hb3⟩
      have HT3 := Lib.hid (HT2.out.below hb3 HT2.out.hi_le)
      have HB3 := Lib.hid (HB2.out.trans (hb3.mono HB2.out.size))
      clear hb3 HT2 HB2
      rw [← HMN'.out] at hk3'
      go_wp2_with fail
      refine (WT.out _ _ _ _ _ HT3.out).mono ?_
      rintro e w4 ⟨⟨k4, rfl, hk4, hk4'⟩, hb4⟩
      have HT4 := Lib.hid (HT3.out.below hb4 HT3.out.hi_le)
      have HB4 := Lib.hid (HB3.out.trans (hb4.mono HB3.out.size))
      clear hb4 HT3 HB3
      rw [← HMN'.out] at hk4'
      have d1 : decide (k3 < l.length) = false := by simp; omega
      have d2 : decide (MN < k4) = false := by simp; omega
      have hMN := HMNe.out
      have hm : min (D.length : Int) 100 = (m : Int) := HM.out
      go_wp2
      clear hMN hk3 hk3' hk4 hk4' d1 d2
      (try rw [hm, show (m : Int).toNat = m by omega, show max (m : Int) 0 = (m : Int) by omega])
      clear hm
      go_loopw [55] (fun iv wr => ∃ (i : Nat) (l' : List Pt), iv = .int .i64 i ∧ i ≤ m ∧ Hid (BanAt wr w.heap.size w1.heap.size tb l.length l') ∧ Below w.heap.size w wr) (fun iv _ => m - (intOf iv).toNat)
      case atStart => exact ⟨0, l, rfl, Nat.zero_le _, HT4, HB4.out⟩
      case round =>
        obtain ⟨i, l', rfl, hi, HT, hb⟩ := hrel
        by_cases him : i < m
        · obtain ⟨b', off', ea, hbl, hcs⟩ := (HR'.out.below hb).get (by omega)
          have x0 := hcs i (by omega)
          have wf0 := HD.out D[i] (List.getElem_mem _)
          have EA := Lib.hid ea
          clear hcs ea
          generalize D[i] = d at *
          obtain rfl := EA.out
          clear EA
          have hd0 : 0 ≤ d ∧ d ≤ 255 := by
            simp [Lit.wf, IntKind.min, IntKind.max, IntKind.signed, IntKind.bits] at wf0
            omega
          obtain ⟨e, rfl⟩ : ∃ e : Nat, d = e := ⟨d.toNat, by omega⟩
          have him2 : (i : Int) < (m : Int) := by omega
          by_cases h0 : 0 < l.length
          · have hj : e % l.length < l.length := Nat.mod_lt _ h0
            obtain ⟨b2, off2, ea2, hbl2, hcs2⟩ := (HR.out.below hb).get h0
            have z0 := hcs2 (e % l.length) hj 0 (by omega)
            have z1 := hcs2 (e % l.length) hj 1 (by omega)
            have z2 := hcs2 (e % l.length) hj 2 (by omega)
            simp only [ePt, List.getElem?_cons_zero, List.getElem?_cons_succ, Nat.add_zero] at z0 z1 z2
            have EA := Lib.hid ea2
            clear hcs2 ea2
            have DP := Lib.hid (DR.out wr _ _ _ _ _ HT.out l[e % l.length])
            generalize l[e % l.length] = p at *
            obtain ⟨px, py, pi⟩ := p
            simp only at z0 z1 z2
            obtain rfl := EA.out
            clear EA
            have hl0 : (0 : Int) < (l.length : Int) := by omega
            have hmod : Int.tmod (e : Int) (l.length : Int) = ((e % l.length : Nat) : Int) := by
              rw [Int.tmod_eq_emod_of_nonneg (by omega)]
              omega
            go_wp2_with (go_at_call 26; refine DP.out.mono ?_; rintro e' w2 ⟨rfl, hT2, hk2⟩)
            go_roundw
            case rel => exact ⟨i + 1, _, by go_num, by omega, hT2, hb.trans (hk2.toBelow hb.size (fun k h => h.1))⟩
            case measure => simp [intOf]; omega
          · have hl0 : l.length = 0 := by omega
            go_wp2
            go_roundw
            case rel => exact ⟨i + 1, l', by go_num, by omega, HT, hb⟩
            case measure => simp [intOf]; omega
        · obtain rfl : i = m := by omega
          have few := HT.out.few2
          obtain ⟨ML, hML, hML'⟩ : ∃ M : Nat, (l'.length : Int) * ((K : Int) + 1) = (M : Int) ∧ M = l'.length * (K + 1) := ⟨l'.length * (K + 1), rfl, rfl⟩
          have hML2 : ML ≤ 1800 := by rw [hML']; exact Nat.mul_le_mul (show l'.length ≤ 200 by omega) (show K + 1 ≤ 9 by omega)
          have HML := Lib.hid hML
          have HML' := Lib.hid hML'
          clear hML hML' HMNe HMN' DR HD HR HR' HM
          have HBW := Lib.hid hb
          clear hb
          go_wp2_with fail
          refine (WT.out _ _ _ _ _ HT.out).mono ?_
          rintro e w5 ⟨⟨k5, rfl, hk5, hk5'⟩, hb5⟩
          have HT5 := Lib.hid (HT.out.below hb5 HT.out.hi_le)
          have HB5 := Lib.hid (HBW.out.trans (hb5.mono HBW.out.size))
          clear hb5 HT HBW
          rw [← HML'.out] at hk5'
          go_wp2_with fail
          refine (bLen HT5.out).mono ?_
          rintro e w5b ⟨rfl, rfl⟩
          go_wp2_with fail
          refine (WT.out _ _ _ _ _ HT5.out).mono ?_
          rintro e w6 ⟨⟨k6, rfl, hk6, hk6'⟩, hb6⟩
          have HT6 := Lib.hid (HT5.out.below hb6 HT5.out.hi_le)
          have HB6 := Lib.hid (HB5.out.trans (hb6.mono HB5.out.size))
          clear hb6 HT5 HB5
          rw [← HML'.out] at hk6'
          go_wp2_with fail
          refine (bLen HT6.out).mono ?_
          rintro e w6b ⟨rfl, rfl⟩
          have hML := HML.out
          have d1 : decide (k5 < l'.length) = false := by simp; omega
          have d2 : decide (ML < k6) = false := by simp; omega
          have HMB1 : min (BL.length : Int) 20 = (mb : Int) := HMB.out
          go_wp2_with (refine wp_sliceK elBx (HB.out.below HB6.out) HCB.out 0 mb (Nat.zero_le _) hmb1 rfl _ _ _ rfl rfl rfl rfl ?_; intro ad hr; simp only [Nat.sub_zero, List.drop_zero] at hr ⊢)
          have hPl : (BL.take mb).length = mb := by simp; omega
          have HPR := Lib.hid hr
          clear hr hML HML HML' HMB1 HMB HB HCB hmb1 hk5 hk5' hk6 hk6' hML2 hMN2 WT
          generalize BL.take mb = P at *
          subst hPl
          go_loopw [94] (fun kv wr => ∃ k : Nat, kv = .int .i64 k ∧ k ≤ P.length ∧ Hid (Below w6b.heap.size w6b wr)) (fun kv _ => P.length - (intOf kv).toNat)
          case atStart => exact ⟨0, rfl, Nat.zero_le _, Lib.hid (Below.refl _ _)⟩
          case round =>
            obtain ⟨k, rfl, hk, HBK⟩ := hrel
            by_cases hkl : k < P.length
            · have hb := HBK.out
              obtain ⟨b9, off9, ea, hbl, hcs⟩ := (HPR.out.below hb).get (by omega)
              have x0 := hcs k hkl 0 (by omega)
              have x1 := hcs k hkl 1 (by omega)
              have x2 := hcs k hkl 2 (by omega)
              have x3 := hcs k hkl 3 (by omega)
              have x4 := hcs k hkl 4 (by omega)
              simp only [eBx, List.getElem?_cons_zero, List.getElem?_cons_succ, Nat.add_zero] at x0 x1 x2 x3 x4
              have EA := Lib.hid ea
              clear hcs ea
              generalize P[k] = q at *
              obtain ⟨q1, q2, q3, q4, q5⟩ := q
              simp only at x0 x1 x2 x3 x4
              have hkl2 : (k : Int) < (P.length : Int) := by omega
              obtain rfl := EA.out
              clear EA
              obtain ⟨w7, ew7⟩ : ∃ w7, w7 = wr.alloc (.cells #[.int .i64 q1, .int .i64 q2, .int .i64 q3, .int .i64 q4, .int .u32 q5] 51) := ⟨_, rfl⟩
              have b7 : Below wr.heap.size wr w7 := by rw [ew7]; exact (Below.refl _ _).alloc (Nat.le_refl _) _
              have X7 : w7.heap[wr.heap.size]? = some (objBx (q1, q2, q3, q4, q5)) := by rw [ew7]; exact lit0 _ _
              have B7 := hb.trans (b7.mono hb.size)
              have EX := ew7.symm
              obtain ⟨y0, y1, y2, y3, y4⟩ := objBx_cells X7
              clear ew7 b7 hb
              have XH := Lib.hid X7
              clear X7
              go_wp2_with fail
              have X7 := XH.out
              (try rw [EX])
              clear XH EX x0 x1 x2 x3 x4 y0 y1 y2 y3 y4
              refine (bReport (HT6.out.below B7 HT6.out.hi_le) q1 q2 q3 q4 q5).mono ?_
              rintro e w8 ⟨v8, c8, rfl, hc8, hown8, hb8⟩
              obtain ⟨a8, k8, rfl, -, -, -⟩ := Rd.of_owns hown8
              have B8 := B7.trans (hb8.mono B7.size)
              have X8 := (hb8.block _ (Array.getElem?_eq_some_iff.1 X7).1).trans X7
              clear B7 X7 hb8 hown8
              obtain ⟨y0, y1, y2, y3, y4⟩ := objBx_cells X8
              have XH := Lib.hid X8
              clear X8
              go_wp2_with fail
              have X8 := XH.out
              clear XH y0 y1 y2 y3 y4
              refine (bCount (HT6.out.below B8 HT6.out.hi_le) q1 q2 q3 q4 q5).mono ?_
              rintro e w9 ⟨⟨c9, rfl, hc9⟩, hb9⟩
              have B9 := Lib.hid (B8.trans (hb9.mono B8.size))
              clear B8 X8 hb9
              rw [hasB_len, HBM.out] at hc8
              rw [HBC.out] at hc9
              rw [hasB_len]
              have hg : (l'.filter (inB q1 q2 q3 q4)).length ≤ 20000 := by have := List.length_filter_le (inB q1 q2 q3 q4) l'; omega
              generalize (l'.filter (inB q1 q2 q3 q4)).length = g at *
              have hM4 := HM4.out
              have hM8 := HM8.out
              have e1 : ¬ ((c8 : Int) < (g : Int)) := by omega
              have e2 : ¬ ((g : Int) + (M4 : Int) + 12 * (K : Int) + 12 < (c8 : Int)) := by omega
              have e3 : ¬ ((c9 : Int) < 0) := by omega
              have e4 : ¬ ((M8 : Int) + 12 * (K : Int) + 12 < (c9 : Int)) := by omega
              go_wp2
              exact ⟨⟨k + 1, by go_num, by omega, B9⟩, by simp [intOf]; omega⟩
            · obtain rfl : k = P.length := by omega
              have HBR := Lib.hid (HB6.out.trans (HBK.out.mono HB6.out.size))
              go_wp2_with (go_at_call 34; refine (AW.out _).mono ?_; rintro e w9 ⟨rfl, hb9⟩)
              go_ret
              exact ⟨rfl, HBR.out.trans (hb9.mono HBR.out.size)⟩
    · have cd := Lib.hid (band_build_bad a c l w h (by omega) hw hu)
      clear hD hw hu hf
      go_enter Tryz.func11, Tryz.ntmps11
      go_wp2_with (first
        | (go_at_call 25; refine cd.out.mono ?_; rintro e w2 ⟨rfl, hb2⟩)
        | (go_at_call 34; refine (AW.out _).mono ?_; rintro e w3 ⟨rfl, hb3⟩))
      go_ret
      exact ⟨rfl, hb2.trans (hb3.mono hb2.size)⟩
  · have dl : decide (200 < (l.length : Int)) = true := by simp; omega
    go_enter Tryz.func11, Tryz.ntmps11
    go_wp2_with (go_at_call 34; refine (AW.out _).mono ?_; rintro e w3 ⟨rfl, hb3⟩)
    go_ret
    exact ⟨rfl, hb3⟩
end Go.Proofs.YthpgkldpbbajfaaGreat
