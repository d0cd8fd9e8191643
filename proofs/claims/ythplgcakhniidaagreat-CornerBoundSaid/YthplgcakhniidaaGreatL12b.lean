/- The law CornerBound, walked (printed by gen_l12b.py). -/
import Derived.Test.YthplgcakhniidaaGreatL12w
import Derived.Test.YthplgcakhniidaaGreatL12k
import Derived.Test.YthplgcakhniidaaGreatQ3
namespace Go.Proofs.YthplgcakhniidaaGreat
open Go.RowKit Go.Maps
attribute [local irreducible] wpQuiet
set_option linter.unusedSimpArgs false
set_option linter.unusedVariables false

theorem few12 (t u m : Int) (h1 : t ≤ u) (h2 : u ≤ t + m) (h3 : 0 ≤ t ∧ t ≤ 1000000 ∧ 0 ≤ m ∧ m ≤ 1000000) (w : World) :
    Calls Tryz.prog 39 #[.int .i64 t, .int .i64 u, .int .i64 m] w fun e w' => e = .returned (.bool true) ∧ w' = w := by
  have d1 : decide (t ≤ u) = true := by simpa using h1
  have d2 : decide (u ≤ t + m) = true := by simpa using h2
  go_enter Tryz.func39, Tryz.ntmps39
  go_wp2
  go_ret
  exact ⟨rfl, rfl⟩

set_option maxRecDepth 100000 in
set_option maxHeartbeats 8000000 in
theorem wCornerBound (a : Option Addr) (l : List Pt) (n c : Nat) (ab : Option Addr) (BL : List Pt) (nb kb : Nat) (way : Int) (b : Option Addr) (D : List Int) (m c' : Nat) (w : World) (hn : l.length = n) (h : RdK ePt 3 w a l) (hf : wfL l)
    (hnb : BL.length = nb) (hB : RdK ePt 3 w ab BL) (hcb : nb ≤ kb ∧ kb ≤ maxLen) (fB : wfL BL) (hway : (Lit.int .u8 way).wf = true) (hm : D.length = m) (h' : Rd (.int .u8) w b D) (hc' : m ≤ c' ∧ c' ≤ maxLen) (hD : ∀ x ∈ D, (Lit.int .u8 x).wf = true) :
    Calls Tryz.prog 13 #[.slice a n c, .slice ab nb kb, .int .u8 way, .slice b m c'] w fun e w' => e = .returned (.bool true) ∧ Below w.heap.size w w' := by
  subst hn hm hnb
  have hw : wfN l := fun p hp => (hf p hp).2.2
  have AW := Lib.hid (fun W => awake12 W)
  have h0 : 0 ≤ way := by simp [Lit.wf, IntKind.min, IntKind.max, IntKind.signed, IntKind.bits] at hway; omega
  have H0 := Lib.hid h0
  clear hway h0
  by_cases hlen : l.length ≤ 200
  · have dl : decide (200 < (l.length : Int)) = false := by simp; omega
    rcases Bool.eq_false_or_eq_true (unl l) with hu | hu
    · have cd := Lib.hid (coBuild a c l w h (by omega) hw hu)
      have HB := Lib.hid hB
      have HCB := Lib.hid hcb.1
      have HR := Lib.hid h
      have HR' := Lib.hid h'
      have HD := Lib.hid hD
      have HWL := Lib.hid hf
      have HWB := Lib.hid fB
      have hcd1 := hc'.1
      have cl := Lib.hid (fun W => rLog ((l.length : Int) + 1) W (by omega))
      have hlg := rkLog_succ l.length (by omega)
      have hl2 : Lib.bitLen l.length ≤ 8 := Nat.le_trans (bitLen_mono (show l.length ≤ 255 by omega) (by omega)) (by decide)
      generalize rkLog ((l.length : Int) + 1) = K at *
      have hK8 : K ≤ 8 := by omega
      have HKB := Lib.hid hlg
      clear hlg
      have DR := Lib.hid (fun (w : World) (lo hi cb n0 : Nat) (l' : List Pt) (h : CorAt w lo hi cb n0 l') p => coDrop h p)
      have FW := Lib.hid (fun t u m W h1 h2 h3 => few12 t u m h1 h2 h3 W)
      clear hD hw hf h h' hB hcb hu fB hc'
      obtain ⟨mb, hmb, hmb1, hmb2⟩ : ∃ m : Nat, min (BL.length : Int) 12 = (m : Int) ∧ m ≤ BL.length ∧ m ≤ 12 := ⟨min BL.length 12, by omega, by omega, by omega⟩
      have HMB := Lib.hid hmb
      clear hmb
      go_enter Tryz.func13, Tryz.ntmps13
      go_wp2_with (go_at_call 18; refine cd.out.mono ?_; rintro e w1 ⟨cb, rfl, hT1, hb1⟩)
      obtain ⟨m, hm, hm1, hmm⟩ : ∃ m : Nat, min (D.length : Int) 100 = (m : Int) ∧ m ≤ D.length ∧ m ≤ 100 := ⟨min D.length 100, by omega, by omega, by omega⟩
      have HT1 := Lib.hid hT1
      have HS1 := Lib.hid hb1.size
      have HBB1 := Lib.hid hb1
      clear hT1 cd hb1
      go_wp2
      (try rw [hm, show (m : Int).toNat = m by omega, show max (m : Int) 0 = (m : Int) by omega])
      clear hm
      go_loopw [42] (fun iv wr => ∃ (i : Nat) (l' : List Pt), iv = .int .i64 i ∧ i ≤ m ∧ Hid (wfL l') ∧ Hid (CorAt wr w.heap.size w1.heap.size cb l.length l') ∧ Below w.heap.size w wr) (fun iv _ => m - (intOf iv).toNat)
      case atStart => exact ⟨0, l, rfl, Nat.zero_le _, HWL, HT1, HBB1.out⟩
      case round =>
        obtain ⟨i, l', rfl, hi, HWF, HT, hb⟩ := hrel
        by_cases him : i < m
        · obtain ⟨b', off', ea, hbl, hcs⟩ := (HR'.out.below hb).get (by omega)
          have x0 := hcs i (by omega)
          have wf0 := HD.out D[i] (List.getElem_mem _)
          have EA := Lib.hid ea
          clear hcs ea
          generalize D[i] = d at *
          obtain rfl := EA.out
          clear EA
          have hd0 : 0 ≤ d ∧ d ≤ 255 := by
            simp [Lit.wf, IntKind.min, IntKind.max, IntKind.signed, IntKind.bits] at wf0
            omega
          obtain ⟨e, rfl⟩ : ∃ e : Nat, d = e := ⟨d.toNat, by omega⟩
          have him2 : (i : Int) < (m : Int) := by omega
          by_cases h0 : 0 < l.length
          · have hj : e % l.length < l.length := Nat.mod_lt _ h0
            obtain ⟨b2, off2, ea2, hbl2, hcs2⟩ := (HR.out.below hb).get h0
            have z0 := hcs2 (e % l.length) hj 0 (by omega)
            have z1 := hcs2 (e % l.length) hj 1 (by omega)
            have z2 := hcs2 (e % l.length) hj 2 (by omega)
            simp only [ePt, List.getElem?_cons_zero, List.getElem?_cons_succ, Nat.add_zero] at z0 z1 z2
            have EA := Lib.hid ea2
            clear hcs2 ea2
            have DP := Lib.hid (DR.out wr _ _ _ _ _ HT.out l[e % l.length])
            have HWM : Hid (wfL (l'.filter fun q => decide (q ≠ l[e % l.length]))) := Lib.hid (fun p hp => HWF.out p (List.mem_filter.1 hp).1)
            generalize l[e % l.length] = p at *
            obtain ⟨px, py, pi⟩ := p
            simp only at z0 z1 z2
            obtain rfl := EA.out
            clear EA
            have hl0 : (0 : Int) < (l.length : Int) := by omega
            have hmod : Int.tmod (e : Int) (l.length : Int) = ((e % l.length : Nat) : Int) := by
              rw [Int.tmod_eq_emod_of_nonneg (by omega)]
              omega
            go_wp2_with (go_at_call 38; refine DP.out.mono ?_; rintro e' w2 ⟨rfl, hT2, hk2⟩)
            exact ⟨⟨i + 1, _, by go_num, by omega, HWM, hT2, hb.trans (hk2.toBelow hb.size (fun k h => h.1))⟩, by simp [intOf]; omega⟩
          · have hl0 : l.length = 0 := by omega
            go_wp2
            go_roundw
            case rel => exact ⟨i + 1, l', by go_num, by omega, HWF, HT, hb⟩
            case measure => simp [intOf]; omega
        · obtain rfl : i = m := by omega
          have HMB1 : min (BL.length : Int) 12 = (mb : Int) := HMB.out
          go_wp2_with (first
            | (go_at_call 30; refine (cl.out _).mono ?_; rintro e w3 ⟨rfl, hb3⟩)
            | (refine wp_sliceK elPt10 (HB.out.below (hb.trans (hb3.mono hb.size))) HCB.out 0 mb (Nat.zero_le _) hmb1 rfl _ _ _ rfl rfl rfl rfl ?_; intro ad hr; simp only [Nat.sub_zero, List.drop_zero] at hr ⊢))
          have B3 := hb.trans (hb3.mono hb.size)
          have T3 := HT.out.below hb3 HT.out.hi_le
          have hPl : (BL.take mb).length = mb := by simp; omega
          have HPR := Lib.hid hr
          have HWP : Hid (wfL (BL.take mb)) := Lib.hid (fun p hp => HWB.out p (List.mem_of_mem_take hp))
          clear hr hb3 cl hK8 HMB1 HMB HB HCB hmb1
          generalize BL.take mb = P at *
          subst hPl
          have hTt := T3.few
          have HT3 := Lib.hid T3
          have HB3 := Lib.hid B3
          obtain rfl := HKB.out
          clear T3 B3 hb HT DR HD HR HR'
          go_loopw [72] (fun kv wr => ∃ k : Nat, kv = .int .i64 k ∧ k ≤ P.length ∧ Below w3.heap.size w3 wr) (fun kv _ => P.length - (intOf kv).toNat)
          case atStart => exact ⟨0, rfl, Nat.zero_le _, Below.refl _ _⟩
          case round =>
            obtain ⟨k, rfl, hk, hb⟩ := hrel
            by_cases hkl : k < P.length
            · obtain ⟨b2, off, ea, hbl, hcs⟩ := (HPR.out.below hb).get (by omega)
              have x0 := hcs k hkl 0 (by omega)
              have x1 := hcs k hkl 1 (by omega)
              have x2 := hcs k hkl 2 (by omega)
              simp only [ePt, List.getElem?_cons_zero, List.getElem?_cons_succ, Nat.add_zero] at x0 x1 x2
              have hwq := HWP.out P[k] (List.getElem_mem _)
              have EA := Lib.hid ea
              clear hcs ea
              generalize P[k] = q at *
              obtain ⟨q1, q2, q3⟩ := q
              simp only at x0 x1 x2
              have hkl2 : (k : Int) < (P.length : Int) := by omega
              obtain rfl := EA.out
              clear EA
              have HWQ := Lib.hid hwq
              clear hwq
              obtain ⟨w4, ew4⟩ : ∃ w4, w4 = wr.alloc (.cells #[.int .i64 q1, .int .i64 q2, .int .u32 q3] 34) := ⟨_, rfl⟩
              have b4 : Below wr.heap.size wr w4 := by rw [ew4]; exact (Below.refl _ _).alloc (Nat.le_refl _) _
              have X4 : w4.heap[wr.heap.size]? = some (obP (q1, q2, q3)) := by rw [ew4]; exact lit0 _ _
              have B4 := hb.trans (b4.mono hb.size)
              have EX := ew4.symm
              obtain ⟨y0, y1, y2⟩ := obP_cells X4
              clear ew4 b4
              have XH := Lib.hid X4
              clear X4
              go_wp2_with fail
              have X4 := XH.out
              (try rw [EX])
              clear XH EX x0 x1 x2 y0 y1 y2
              refine (coReport_any (HT3.out.below B4 HT3.out.hi_le) HWF.out q1 q2 way H0.out).mono ?_
              rintro e w5 ⟨v5, c5, rfl, hc5, hown5, hb5⟩
              obtain ⟨a5, k5, rfl, -, -, -⟩ := Rd.of_owns hown5
              clear hown5
              have B5 := B4.trans (hb5.mono B4.size)
              have X5 := (hb5.block _ (Array.getElem?_eq_some_iff.1 X4).1).trans X4
              clear B4 X4 hb5
              obtain ⟨y0, y1, y2⟩ := obP_cells X5
              have XH := Lib.hid X5
              clear X5
              go_wp2_with fail
              have X5 := XH.out
              clear XH y0 y1 y2
              refine (coCount_any (HT3.out.below B5 HT3.out.hi_le) HWF.out q1 q2 way H0.out).mono ?_
              rintro e w6 ⟨⟨c6, rfl, hc6⟩, hb6⟩
              have B6 := B5.trans (hb6.mono B5.size)
              have X6 := (hb6.block _ (Array.getElem?_eq_some_iff.1 X5).1).trans X5
              clear B5 X5 hb6
              obtain ⟨y0, y1, y2⟩ := obP_cells X6
              have XH := Lib.hid X6
              clear X6
              go_wp2_with fail
              have X6 := XH.out
              clear XH y0 y1 y2
              refine (coOver (HT3.out.below B6 HT3.out.hi_le) HWF.out q1 q2 q3 HWQ.out.1 HWQ.out.2.1).mono ?_
              rintro e w7 ⟨v7, c7, rfl, hc7, hown7, hb7⟩
              obtain ⟨a7, k7, rfl, -, -, -⟩ := Rd.of_owns hown7
              clear hown7
              have B7 := B6.trans (hb7.mono B6.size)
              have X7 := (hb7.block _ (Array.getElem?_eq_some_iff.1 X6).1).trans X6
              clear B6 X6 hb7
              obtain ⟨y0, y1, y2⟩ := obP_cells X7
              have XH := Lib.hid X7
              clear X7
              go_wp2_with fail
              have X7 := XH.out
              clear XH y0 y1 y2
              refine (coUnder (HT3.out.below B7 HT3.out.hi_le) HWF.out q1 q2 q3 HWQ.out.1 HWQ.out.2.1).mono ?_
              rintro e w8 ⟨v8, c8, rfl, hc8, hown8, hb8⟩
              obtain ⟨a8, k8, rfl, -, -, -⟩ := Rd.of_owns hown8
              clear hown8
              have B8 := B7.trans (hb8.mono B7.size)
              have X8 := (hb8.block _ (Array.getElem?_eq_some_iff.1 X7).1).trans X7
              clear B7 X7 hb8
              have hg1 := hasN_few l' (cwF way q1 q2)
              have hg2 := hasN_few l' (fun q => ovr q (q1, q2, q3))
              have hg3 := hasN_few l' (ovr (q1, q2, q3))
              generalize (hasN l' (cwF way q1 q2)).length = g1 at *
              generalize (hasN l' (fun q => ovr q (q1, q2, q3))).length = g2 at *
              generalize (hasN l' (ovr (q1, q2, q3))).length = g3 at *
              clear X8
              have e3 : ¬ ((c6 : Int) < 0) := by omega
              have e4 : ¬ (8 * ((Lib.bitLen l.length : Nat) : Int) + 8 < (c6 : Int)) := by omega
              go_wp2_with (go_at_call 39; refine (FW.out _ _ _ _ (by omega) (by omega) (by omega)).mono ?_; rintro e w9 ⟨rfl, rfl⟩)
              exact ⟨⟨k + 1, by go_num, by omega, by assumption⟩, by simp [intOf]; omega⟩
            · obtain rfl : k = P.length := by omega
              have BR := HB3.out.trans (hb.mono HB3.out.size)
              go_wp2_with (go_at_call 32; refine (AW.out _).mono ?_; rintro e w9 ⟨rfl, hb9⟩)
              go_ret
              exact ⟨rfl, BR.trans (hb9.mono BR.size)⟩
    · have cd := Lib.hid (coBuild_bad a c l w h (by omega) hw hu)
      clear hD hw hu hf
      go_enter Tryz.func13, Tryz.ntmps13
      go_wp2_with (first
        | (go_at_call 18; refine cd.out.mono ?_; rintro e w2 ⟨rfl, hb2⟩)
        | (go_at_call 32; refine (AW.out _).mono ?_; rintro e w3 ⟨rfl, hb3⟩))
      go_ret
      exact ⟨rfl, hb2.trans (hb3.mono hb2.size)⟩
  · have dl : decide (200 < (l.length : Int)) = true := by simp; omega
    go_enter Tryz.func13, Tryz.ntmps13
    go_wp2_with (go_at_call 32; refine (AW.out _).mono ?_; rintro e w3 ⟨rfl, hb3⟩)
    go_ret
    exact ⟨rfl, hb3⟩
end Go.Proofs.YthplgcakhniidaaGreat
