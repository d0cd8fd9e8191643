/- The law LowBound, walked. -/
import Derived.Test.YtggfdlanobndjaaGreatL14a
import Derived.Test.YtggfdlanobndjaaGreatQ6
import Derived.Test.YtggfdlanobndjaaGreatQ3
import Derived.Test.YtggfdlanobndjaaGreatQ5
namespace Go.Proofs.YtggfdlanobndjaaGreat
open Go.RowKit Go.Maps
attribute [local irreducible] wpQuiet
set_option linter.unusedSimpArgs false
set_option linter.unusedVariables false

set_option maxRecDepth 100000 in
set_option maxHeartbeats 8000000 in
theorem wLowBound (a : Option Addr) (l : List Pt) (n c : Nat) (ab : Option Addr) (BL : List Sd) (nb kb : Nat) (b : Option Addr) (D : List Int) (m c' : Nat) (w : World) (hn : l.length = n) (h : RdK ePt 3 w a l) (hf : ∀ p ∈ l, (Lit.int .i64 p.1).wf = true ∧ (Lit.int .i64 p.2.1).wf = true ∧ (Lit.int .u32 p.2.2).wf = true)
    (hnb : BL.length = nb) (hB : RdK eSd 3 w ab BL) (hcb : nb ≤ kb ∧ kb ≤ maxLen) (hm : D.length = m) (h' : Rd (.int .u8) w b D) (hc' : m ≤ c' ∧ c' ≤ maxLen) (hD : ∀ x ∈ D, (Lit.int .u8 x).wf = true) :
    Calls Tryz.prog 14 #[.slice a n c, .slice ab nb kb, .slice b m c'] w fun e w' => e = .returned (.bool true) ∧ Below w.heap.size w w' := by
  subst hn hm hnb
  have hw : wfN l := fun p hp => (hf p hp).2.2
  have AW := Lib.hid (fun W => awake14 W)
  by_cases hlen : l.length ≤ 200
  · have dl : decide (200 < (l.length : Int)) = false := by simp; omega
    rcases Bool.eq_false_or_eq_true (unl l) with hu | hu
    · have cd := Lib.hid (lBuild a c l w h (by omega) hw hu)
      have HB := Lib.hid hB
      have HCB := Lib.hid hcb.1
      have HR := Lib.hid h
      have HR' := Lib.hid h'
      have HD := Lib.hid hD
      have hcd1 := hc'.1
      have cl := Lib.hid (fun W => rLog ((l.length : Int) + 1) W (by omega))
      have hlg := rkLog_succ l.length (by omega)
      have hl2 : Lib.bitLen l.length ≤ 8 := Nat.le_trans (bitLen_mono (show l.length ≤ 255 by omega) (by omega)) (by decide)
      generalize rkLog ((l.length : Int) + 1) = K at *
      have hK8 : K ≤ 8 := by omega
      have HBL : Hid (K = Lib.bitLen l.length) := by show _ = _; omega
      have DR := Lib.hid (fun (w : World) (lo hi cb n0 : Nat) (l' : List Pt) (h : LowAt w lo hi cb n0 l') p => lDrop h p)
      have hbm2 : lMost l.length = 6 * K + 1 := by unfold lMost; rw [← HBL.out]
      have HBM := Lib.hid hbm2
      clear hD hw hf h h' hB hcb hu hc' hlg hl2 hbm2
      obtain ⟨mb, hmb, hmb1, hmb2⟩ : ∃ m : Nat, min (BL.length : Int) 20 = (m : Int) ∧ m ≤ BL.length ∧ m ≤ 20 := ⟨min BL.length 20, by omega, by omega, by omega⟩
      have HMB := Lib.hid hmb
      clear hmb
      obtain ⟨m, hm, hm1, hmm⟩ : ∃ m : Nat, min (D.length : Int) 200 = (m : Int) ∧ m ≤ D.length ∧ m ≤ 200 := ⟨min D.length 200, by omega, by omega, by omega⟩
      have HM := Lib.hid hm
      clear hm
      go_enter Tryz.func14, Tryz.ntmps14
      go_wp2_with fail
      refine cd.out.mono ?_
      rintro e w1 ⟨tb, rfl, hT1, hb1⟩
      have HT1 := Lib.hid hT1
      have HB1 := Lib.hid hb1
      clear hT1 cd hb1
      have hm : min (D.length : Int) 200 = (m : Int) := HM.out
      go_wp2
      (try rw [hm, show (m : Int).toNat = m by omega, show max (m : Int) 0 = (m : Int) by omega])
      clear hm
      go_loopw [37] (fun iv wr => ∃ (i : Nat) (l' : List Pt), iv = .int .i64 i ∧ i ≤ m ∧ Hid (LowAt wr w.heap.size w1.heap.size tb l.length l') ∧ Below w.heap.size w wr) (fun iv _ => m - (intOf iv).toNat)
      case atStart => exact ⟨0, l, rfl, Nat.zero_le _, HT1, HB1.out⟩
      case round =>
        obtain ⟨i, l', rfl, hi, HT, hb⟩ := hrel
        by_cases him : i < m
        · obtain ⟨b', off', ea, hbl, hcs⟩ := (HR'.out.below hb).get (by omega)
          have x0 := hcs i (by omega)
          have wf0 := HD.out D[i] (List.getElem_mem _)
          have EA := Lib.hid ea
          clear hcs ea
          generalize D[i] = d at *
          obtain rfl := EA.out
          clear EA
          have hd0 : 0 ≤ d ∧ d ≤ 255 := by
            simp [Lit.wf, IntKind.min, IntKind.max, IntKind.signed, IntKind.bits] at wf0
            omega
          obtain ⟨e, rfl⟩ : ∃ e : Nat, d = e := ⟨d.toNat, by omega⟩
          have him2 : (i : Int) < (m : Int) := by omega
          by_cases h0 : 0 < l.length
          · have hj : e % l.length < l.length := Nat.mod_lt _ h0
            obtain ⟨b2, off2, ea2, hbl2, hcs2⟩ := (HR.out.below hb).get h0
            have z0 := hcs2 (e % l.length) hj 0 (by omega)
            have z1 := hcs2 (e % l.length) hj 1 (by omega)
            have z2 := hcs2 (e % l.length) hj 2 (by omega)
            simp only [ePt, List.getElem?_cons_zero, List.getElem?_cons_succ, Nat.add_zero] at z0 z1 z2
            have EA := Lib.hid ea2
            clear hcs2 ea2
            have DP := Lib.hid (DR.out wr _ _ _ _ _ HT.out l[e % l.length])
            generalize l[e % l.length] = p at *
            obtain ⟨px, py, pi⟩ := p
            simp only at z0 z1 z2
            obtain rfl := EA.out
            clear EA
            have hl0 : (0 : Int) < (l.length : Int) := by omega
            have hmod : Int.tmod (e : Int) (l.length : Int) = ((e % l.length : Nat) : Int) := by
              rw [Int.tmod_eq_emod_of_nonneg (by omega)]
              omega
            go_wp2_with (go_at_call 33; refine DP.out.mono ?_; rintro e' w2 ⟨rfl, hT2, hk2⟩)
            go_roundw
            case rel => exact ⟨i + 1, _, by go_num, by omega, hT2, hb.trans (hk2.toBelow hb.size (fun k h => h.1))⟩
            case measure => simp [intOf]; omega
          · have hl0 : l.length = 0 := by omega
            go_wp2
            go_roundw
            case rel => exact ⟨i + 1, l', by go_num, by omega, HT, hb⟩
            case measure => simp [intOf]; omega
        · obtain rfl : i = m := by omega
          have few := HT.out.few2
          clear DR HD HR HR' HM
          have HBW := Lib.hid hb
          clear hb
          go_wp2_with fail
          refine (cl.out _).mono ?_
          rintro e w6b ⟨rfl, hb2⟩
          have HT6 := Lib.hid (HT.out.below hb2 HT.out.hi_le)
          have HB6 := Lib.hid (HBW.out.trans (hb2.mono HBW.out.size))
          clear hb2 HT HBW cl
          have HMB1 : min (BL.length : Int) 20 = (mb : Int) := HMB.out
          go_wp2_with (refine wp_sliceK elPa (HB.out.below HB6.out) HCB.out 0 mb (Nat.zero_le _) hmb1 rfl _ _ _ rfl rfl rfl rfl ?_; intro ad hr; simp only [Nat.sub_zero, List.drop_zero] at hr ⊢)
          have hPl : (BL.take mb).length = mb := by simp; omega
          have HPR := Lib.hid hr
          clear hr HMB1 HMB HB HCB hmb1
          generalize BL.take mb = P at *
          subst hPl
          go_loopw [65] (fun kv wr => ∃ k : Nat, kv = .int .i64 k ∧ k ≤ P.length ∧ Hid (Below w6b.heap.size w6b wr)) (fun kv _ => P.length - (intOf kv).toNat)
          case atStart => exact ⟨0, rfl, Nat.zero_le _, Lib.hid (Below.refl _ _)⟩
          case round =>
            obtain ⟨k, rfl, hk, HBK⟩ := hrel
            by_cases hkl : k < P.length
            · have hb := HBK.out
              obtain ⟨b9, off9, ea, hbl, hcs⟩ := (HPR.out.below hb).get (by omega)
              have x0 := hcs k hkl 0 (by omega)
              have x1 := hcs k hkl 1 (by omega)
              have x2 := hcs k hkl 2 (by omega)
              simp only [eSd, List.getElem?_cons_zero, List.getElem?_cons_succ, Nat.add_zero] at x0 x1 x2
              have EA := Lib.hid ea
              clear hcs ea
              generalize P[k] = q at *
              obtain ⟨q1, q2, q3⟩ := q
              simp only at x0 x1 x2
              have hkl2 : (k : Int) < (P.length : Int) := by omega
              obtain rfl := EA.out
              clear EA
              obtain ⟨w7, ew7⟩ : ∃ w7, w7 = wr.alloc (.cells #[.int .i64 q1, .int .i64 q2, .int .i64 q3] 78) := ⟨_, rfl⟩
              have b7 : Below wr.heap.size wr w7 := by rw [ew7]; exact (Below.refl _ _).alloc (Nat.le_refl _) _
              have X7 : w7.heap[wr.heap.size]? = some (objPa (q1, q2, q3)) := by rw [ew7]; exact lit0 _ _
              have B7 := hb.trans (b7.mono hb.size)
              have EX := ew7.symm
              obtain ⟨y0, y1, y2⟩ := objPa_cells X7
              clear ew7 b7 hb
              have XH := Lib.hid X7
              clear X7
              go_wp2_with fail
              have X7 := XH.out
              (try rw [EX])
              clear XH EX x0 x1 x2 y0 y1 y2
              refine (lLowest (HT6.out.below B7 HT6.out.hi_le) q1 q2).mono ?_
              rintro e w8 ⟨⟨p8, -, c8, rfl, hc8⟩, hb8⟩
              obtain ⟨p81, p82, p83⟩ := p8
              obtain ⟨w8b, ew8⟩ : ∃ w8b, w8b = w8.alloc (.cells #[.int .i64 p81, .int .i64 p82, .int .u32 p83] 34) := ⟨_, rfl⟩
              have hb8b : Below w8.heap.size w8 w8b := by rw [ew8]; exact (Below.refl _ _).alloc (Nat.le_refl _) _
              have hb8c := hb8.trans (hb8b.mono hb8.size)
              have B8 := B7.trans (hb8c.mono B7.size)
              have X8 := (hb8c.block _ (Array.getElem?_eq_some_iff.1 X7).1).trans X7
              have EW := Lib.hid ew8
              clear B7 X7 hb8 hb8b hb8c ew8
              obtain ⟨y0, y1, y2⟩ := objPa_cells X8
              have XH := Lib.hid X8
              clear X8
              generalize (lws l' q1 q2).head?.isSome = f8 at *
              go_upto_region 17 with fail
              rw [← EW.out]
              clear EW
              go_wp2_with fail
              clear XH y0 y1 y2
              refine (lLows (HT6.out.below B8 HT6.out.hi_le) q1 q2 q3).mono ?_
              rintro e w9 ⟨⟨v9, c9, L9, hL9, rfl, hown9, hc9, hc9'⟩, hb9⟩
              obtain ⟨a9, k9, rfl⟩ := rowV hown9
              have B9 := Lib.hid (B8.trans (hb9.mono B8.size))
              have hg : L9.length ≤ 200 := by rw [hL9, List.length_take]; have := lws_len l' q1 q2; omega
              clear B8 hb9 hown9 hL9
              rw [HBM.out] at hc8 hc9'
              rw [← HBL.out] at hc9'
              generalize L9.length = g at *
              obtain ⟨Pd, hPd⟩ : ∃ Pd : Nat, Pd = g * (2 * K + 3) := ⟨_, rfl⟩
              have hP1 : g * (1 + K) ≤ Pd := by rw [hPd]; exact Nat.mul_le_mul (Nat.le_refl _) (by omega)
              have hP2 : Pd ≤ 200 * 19 := by rw [hPd]; exact Nat.mul_le_mul hg (by omega)
              have hPI : (g : Int) * (2 * (K : Int) + 3) = (Pd : Int) := by rw [hPd]; push_cast; rfl
              clear hPd
              have e1 : ¬ ((c8 : Int) < 0) := by omega
              have e2 : ¬ (8 * (K : Int) + 8 < (c8 : Int)) := by omega
              have e3 : ¬ ((c9 : Int) < (g : Int)) := by omega
              have e4 : ¬ (8 * (K : Int) + 8 + (Pd : Int) < (c9 : Int)) := by omega
              clear hP1 hc9'
              go_wp2
              exact ⟨⟨k + 1, by go_num, by omega, B9⟩, by simp [intOf]; omega⟩
            · obtain rfl : k = P.length := by omega
              have HBR := Lib.hid (HB6.out.trans (HBK.out.mono HB6.out.size))
              go_wp2_with (go_at_call 31; refine (AW.out _).mono ?_; rintro e w9 ⟨rfl, hb9⟩)
              go_ret
              exact ⟨rfl, HBR.out.trans (hb9.mono HBR.out.size)⟩
    · have cd := Lib.hid (low_build_bad a c l w h (by omega) hw hu)
      clear hD hw hu hf
      go_enter Tryz.func14, Tryz.ntmps14
      go_wp2_with (first
        | (go_at_call 32; refine cd.out.mono ?_; rintro e w2 ⟨rfl, hb2⟩)
        | (go_at_call 31; refine (AW.out _).mono ?_; rintro e w3 ⟨rfl, hb3⟩))
      go_ret
      exact ⟨rfl, hb2.trans (hb3.mono hb2.size)⟩
  · have dl : decide (200 < (l.length : Int)) = true := by simp; omega
    go_enter Tryz.func14, Tryz.ntmps14
    go_wp2_with (go_at_call 31; refine (AW.out _).mono ?_; rintro e w3 ⟨rfl, hb3⟩)
    go_ret
    exact ⟨rfl, hb3⟩
end Go.Proofs.YtggfdlanobndjaaGreat
