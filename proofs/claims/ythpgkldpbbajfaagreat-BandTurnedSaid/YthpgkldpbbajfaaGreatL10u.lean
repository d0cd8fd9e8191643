/- The law BandTurned, walked. -/
import Derived.Test.YthpgkldpbbajfaaGreatL10w
import Derived.Test.YthpgkldpbbajfaaGreatBnN
import Derived.Test.YthpgkldpbbajfaaGreatQ7
import Derived.Test.YthpgkldpbbajfaaGreatQ10
import Derived.Test.YthpgkldpbbajfaaGreatQ3
namespace Go.Proofs.YthpgkldpbbajfaaGreat
open Go.RowKit Go.Maps
attribute [local irreducible] wpQuiet
set_option linter.unusedSimpArgs false
set_option linter.unusedVariables false

/-- a point with both coordinates exchanged, each the other way round -/
def trP (p : Pt) : Pt := (-1 - p.2.1, -1 - p.1, p.2.2)
theorem tr_ids (l : List Pt) : ids (l.map trP) = ids l := by
  unfold ids; rw [List.map_map]; exact List.map_congr_left fun p _ => rfl
theorem tr_unl (l : List Pt) : unl (l.map trP) = unl l := by unfold unl; rw [tr_ids]
theorem tr_box (l : List Pt) (x1 x2 y1 y2 : Int) : hasB (l.map trP) (-1 - y2) (-1 - y1) (-1 - x2) (-1 - x1) = hasB l x1 x2 y1 y2 := by
  unfold hasB
  congr 1
  rw [List.filter_map, tr_ids]
  congr 1
  refine List.filter_congr fun p _ => ?_
  show decide (-1 - y2 ≤ -1 - p.2.1 ∧ -1 - p.2.1 ≤ -1 - y1 ∧ -1 - x2 ≤ -1 - p.1 ∧ -1 - p.1 ≤ -1 - x1) = decide (x1 ≤ p.1 ∧ p.1 ≤ x2 ∧ y1 ≤ p.2.1 ∧ p.2.1 ≤ y2)
  rw [decide_eq_decide]
  omega
theorem tr_take {l : List Pt} {i : Nat} (hi : i < l.length) : ((l.take (i + 1)).map trP).flatMap ePt = ((l.take i).map trP).flatMap ePt ++ ePt (trP l[i]) := by
  rw [List.take_succ_eq_append_getElem hi, List.map_append, List.flatMap_append]
  simp

set_option maxRecDepth 100000 in
set_option maxHeartbeats 8000000 in
theorem wBandTurned (a : Option Addr) (l : List Pt) (n c : Nat) (ab : Option Addr) (BL : List Bx) (nb kb : Nat) (w : World) (hn : l.length = n) (h : RdK ePt 3 w a l) (hf : ∀ p ∈ l, (Lit.int .i64 p.1).wf = true ∧ (Lit.int .i64 p.2.1).wf = true ∧ (Lit.int .u32 p.2.2).wf = true)
    (hnb : BL.length = nb) (hB : RdK eBx 5 w ab BL) (hcb : nb ≤ kb ∧ kb ≤ maxLen) (hbf : ∀ x ∈ BL, x.wf) :
    Calls Tryz.prog 7 #[.slice a n c, .slice ab nb kb] w fun e w' => e = .returned (.bool true) ∧ Below w.heap.size w w' := by
  subst hn hnb
  have AW := Lib.hid (fun W => awake10 W)
  have HR := Lib.hid h
  have HWL := Lib.hid hf
  have HB := Lib.hid hB
  have HBF := Lib.hid hbf
  have HCB := Lib.hid hcb.1
  clear h hf hB hbf hcb
  by_cases hlen : l.length ≤ 80
  · have dl : decide (80 < (l.length : Int)) = false := by simp; omega
    obtain ⟨mb, hmb, hmb1, hmb2⟩ : ∃ m : Nat, min (BL.length : Int) 12 = (m : Int) ∧ m ≤ BL.length ∧ m ≤ 12 := ⟨min BL.length 12, by omega, by omega, by omega⟩
    have HMB := Lib.hid hmb
    clear hmb
    go_enter Tryz.func7, Tryz.ntmps7
    go_wp2
    go_loopw [5, 24] (fun bv iv wr => ∃ (i : Nat), iv = .int .i64 i ∧ i ≤ l.length ∧ Hid (wr.ownsRow w.heap.size 34 3 bv i (((l.take i).map trP).flatMap ePt)) ∧ Hid (Below w.heap.size w wr)) (fun _ iv _ => l.length - (intOf iv).toNat)
    case atStart => exact ⟨0, rfl, Nat.zero_le _, by simp; exact World.ownsRow_nil _ _ _ _, Lib.hid (Below.refl _ _)⟩
    case round =>
      obtain ⟨i, rfl, hi, HO, HBI⟩ := hrel
      obtain ⟨bv, ebv⟩ : ∃ bv, bv = u5 := ⟨_, rfl⟩
      subst ebv
      by_cases hlt : i < l.length
      · obtain ⟨b2, off, ea, hbl, hcs⟩ := (HR.out.below HBI.out).get (by omega)
        have x0 := hcs i hlt 0 (by omega)
        have x1 := hcs i hlt 1 (by omega)
        have x2 := hcs i hlt 2 (by omega)
        simp only [ePt, List.getElem?_cons_zero, List.getElem?_cons_succ, Nat.add_zero] at x0 x1 x2
        have EA := Lib.hid ea
        have F1 := Lib.hid (tr_take hlt)
        have hwq := wf64 (HWL.out l[i] (List.getElem_mem _)).1
        have hwr := wf64 (HWL.out l[i] (List.getElem_mem _)).2.1
        simp only [leastI, mostI] at hwq hwr
        clear hcs ea
        generalize l[i] = q at *
        obtain ⟨q1, q2, q3⟩ := q
        simp only at x0 x1 x2 hwq hwr
        have hkl2 : (i : Int) < (l.length : Int) := by omega
        obtain rfl := EA.out
        clear EA
        obtain ⟨w4, ew4⟩ : ∃ w4, w4 = wr.alloc (.cells #[.int .i64 q1, .int .i64 q2, .int .u32 q3] 34) := ⟨_, rfl⟩
        have b4 : Below wr.heap.size wr w4 := by rw [ew4]; exact (Below.refl _ _).alloc (Nat.le_refl _) _
        have X4 : w4.heap[wr.heap.size]? = some (obP (q1, q2, q3)) := by rw [ew4]; exact lit0 _ _
        have HB4 := Lib.hid (HBI.out.trans (b4.mono HBI.out.size))
        have HO4 := Lib.hid (ownsRow_below HO.out b4)
        have EX := ew4.symm
        obtain ⟨y0, y1, y2⟩ := obP_cells X4
        have hbs4 : w.heap.size ≤ w4.heap.size := HB4.out.size
        have hh1 : i + 1 ≤ maxLen := by unfold maxLen; omega
        have hh2 : (i + 1) * 24 ≤ 140737488355328 := by omega
        clear ew4 b4 HO X4
        go_wp2_with (at_builtin; refine wp_append1B elPt10 w.heap.size HO4.out [.int .i64 (-1 - q2), .int .i64 (-1 - q1), .int .u32 q3] rfl (by simp [Value.oneCell']) rfl _ _ rfl rfl _ rfl hh1 hh2 hbs4 ?_; intro v5 w5 hown5 hg5 hbk5; have b5 := below_grown HB4.out HO4.out hg5 hbs4 (Nat.le_refl _); have HV5 := Lib.hid hown5; have HB5 := Lib.hid b5; clear b5 hbk5 hown5 hg5)
        exact ⟨⟨i + 1, by go_num, by omega, Lib.hid (F1.out ▸ HV5.out), HB5⟩, by simp [intOf]; omega⟩
      · obtain rfl : i = l.length := by omega
        have HO1 : wr.ownsRow w.heap.size 34 3 bv (l.map trP).length ((l.map trP).flatMap ePt) := by have h9 := HO.out; rw [List.take_length] at h9; rw [List.length_map]; exact h9
        obtain ⟨ag, kg, rfl, -, -, hrg⟩ := RdK.of_owns ePt_len (by decide) HO1
        have TB := Lib.hid (fun x1 x2 y1 y2 => tr_box l x1 x2 y1 y2)
        have UB := Lib.hid (tr_unl l)
        have hlm : (l.map trP).length ≤ 80 := by simpa using hlen
        have NL := Lib.hid (show wfN l from fun p hp => (HWL.out p hp).2.2)
        have NB := Lib.hid (show wfN (l.map trP) from fun p hp => by obtain ⟨q, hq, rfl⟩ := List.mem_map.1 hp; exact (HWL.out q hq).2.2)
        have HRG := Lib.hid hrg
        have HRL := Lib.hid (HR.out.below HBI.out)
        clear HO HO1 hrg HWL HR
        generalize l.map trP = LM at *
        obtain ⟨wx, ewx⟩ : ∃ wx : World, wx = wr := ⟨_, rfl⟩
        subst ewx
        rcases Bool.eq_false_or_eq_true (unl l) with hu | hu
        · have HU := Lib.hid hu
          clear hu
          go_wp2_with fail
          refine (bBuild a c l wx HRL.out (by omega) NL.out HU.out).mono ?_
          rintro e w1 ⟨t, rfl, T1, hb1⟩
          have HRG1 := Lib.hid (HRG.out.below hb1)
          have HT1 := Lib.hid T1
          have HB1 := Lib.hid (HBI.out.trans (hb1.mono HBI.out.size))
          clear T1 hb1 HRG HBI HRL
          go_wp2_with fail
          refine (bBuild ag kg LM w1 HRG1.out (by omega) NB.out (UB.out.trans HU.out)).mono ?_
          rintro e w2 ⟨u, rfl, U2, hb2⟩
          have HT2 := Lib.hid (HT1.out.below hb2 HT1.out.hi_le)
          have HU2 := Lib.hid U2
          have HB2 := Lib.hid (HB1.out.trans (hb2.mono HB1.out.size))
          clear U2 hb2 HT1 HB1 HRG1 NL NB UB HU
          have hmb : min (BL.length : Int) 12 = (mb : Int) := HMB.out
          go_wp2_with (refine wp_sliceK elBx (HB.out.below HB2.out) HCB.out 0 mb (Nat.zero_le _) hmb1 rfl _ _ _ rfl rfl rfl rfl ?_; intro ad' hr; simp only [Nat.sub_zero, List.drop_zero] at hr ⊢)
          have hPl : (BL.take mb).length = mb := by simp; omega
          have HPR := Lib.hid hr
          have HPF : Hid (∀ x ∈ BL.take mb, x.wf) := fun x hx => HBF.out x (List.mem_of_mem_take hx)
          clear hr hmb HMB HB HCB hmb1 HBF
          generalize BL.take mb = P at *
          subst hPl
          go_loopw [60] (fun kv wr => ∃ k : Nat, kv = .int .i64 k ∧ k ≤ P.length ∧ Hid (Below w2.heap.size w2 wr)) (fun kv _ => P.length - (intOf kv).toNat)
          case atStart => exact ⟨0, rfl, Nat.zero_le _, Lib.hid (Below.refl _ _)⟩
          case round =>
            obtain ⟨k, rfl, hk, HBK⟩ := hrel
            by_cases hkl : k < P.length
            · have hb := HBK.out
              obtain ⟨b9, off9, ea, hbl, hcs⟩ := (HPR.out.below hb).get (by omega)
              have x0 := hcs k hkl 0 (by omega)
              have x1 := hcs k hkl 1 (by omega)
              have x2 := hcs k hkl 2 (by omega)
              have x3 := hcs k hkl 3 (by omega)
              have x4 := hcs k hkl 4 (by omega)
              simp only [eBx, List.getElem?_cons_zero, List.getElem?_cons_succ, Nat.add_zero] at x0 x1 x2 x3 x4
              obtain ⟨f1, f2, f3, f4, -⟩ := HPF.out P[k] (List.getElem_mem _)
              have f1 := wf64 f1
              have f2 := wf64 f2
              have f3 := wf64 f3
              have f4 := wf64 f4
              simp only [leastI, mostI] at f1 f2 f3 f4
              have EA := Lib.hid ea
              clear hcs ea
              generalize P[k] = q at *
              obtain ⟨q1, q2, q3, q4, q5⟩ := q
              simp only at x0 x1 x2 x3 x4 f1 f2 f3 f4
              have hkl2 : (k : Int) < (P.length : Int) := by omega
              obtain rfl := EA.out
              clear EA
              obtain ⟨w7, ew7⟩ : ∃ w7, w7 = wr.alloc (.cells #[.int .i64 q1, .int .i64 q2, .int .i64 q3, .int .i64 q4, .int .u32 q5] 51) := ⟨_, rfl⟩
              have b7 : Below wr.heap.size wr w7 := by rw [ew7]; exact (Below.refl _ _).alloc (Nat.le_refl _) _
              have X7 : w7.heap[wr.heap.size]? = some (objBx (q1, q2, q3, q4, q5)) := by rw [ew7]; exact lit0 _ _
              have B7 := hb.trans (b7.mono hb.size)
              have EX := ew7.symm
              obtain ⟨y0, y1, y2, y3, y4⟩ := objBx_cells X7
              clear ew7 b7 hb
              have XH := Lib.hid X7
              clear X7
              go_wp2_with fail
              have X7 := XH.out
              (try rw [EX])
              clear XH EX x0 x1 x2 x3 x4 y0 y1 y2 y3 y4
              refine (bReport (HT2.out.below B7 HT2.out.hi_le) q1 q2 q3 q4 q5).mono ?_
              rintro e w8 ⟨v8, c8, rfl, -, hown8, hb8⟩
              obtain ⟨a8, k8, rfl, -, -, hr8⟩ := Rd.of_owns hown8
              have B8 := B7.trans (hb8.mono B7.size)
              have X8 := (hb8.block _ (Array.getElem?_eq_some_iff.1 X7).1).trans X7
              have R8_8 := Lib.hid hr8
              clear B7 X7 hb8 hown8 hr8
              obtain ⟨y0, y1, y2, y3, y4⟩ := objBx_cells X8
              have XH := Lib.hid X8
              clear X8
              go_wp2_with fail
              have X8 := XH.out
              clear XH y0 y1 y2 y3 y4
              have CR := bReport (HU2.out.below B8 HU2.out.hi_le) (-1 - q4) (-1 - q3) (-1 - q2) (-1 - q1) 7
              rw [TB.out] at CR
              refine CR.mono ?_
              rintro e w9 ⟨v9, c9, rfl, -, hown9, hb9⟩
              obtain ⟨a9, k9, rfl, -, -, hr9⟩ := Rd.of_owns hown9
              have B9 := B8.trans (hb9.mono B8.size)
              have R8_9 := Lib.hid (R8_8.out.below hb9)
              have R9_9 := Lib.hid hr9
              clear B8 X8 hb9 hown9 hr9 R8_8 CR
              have hgN : (hasB l q1 q2 q3 q4).length ≤ 80 := by rw [hasB_len]; exact Nat.le_trans (List.length_filter_le _ _) hlen
              generalize hasB l q1 q2 q3 q4 = N at *
              go_wp2_with fail
              refine (same10 a8 a9 N N _ _ k8 k9 w9 rfl rfl R8_9.out R9_9.out (by omega) (by omega)).mono ?_
              rintro e w11 ⟨rfl, hb11⟩
              have B11 := B9.trans (hb11.mono B9.size)
              have hdt : decide (N = N) = true := by simp
              clear B9 hb11 R8_9 R9_9
              go_wp2
              exact ⟨⟨k + 1, by go_num, by omega, Lib.hid B11⟩, by simp [intOf]; omega⟩
            · obtain rfl : k = P.length := by omega
              have HBZ := Lib.hid (HB2.out.trans (HBK.out.mono HB2.out.size))
              go_wp2_with (go_at_call 34; refine (AW.out _).mono ?_; rintro e w9 ⟨rfl, hb9⟩)
              go_ret
              exact ⟨rfl, HBZ.out.trans (hb9.mono HBZ.out.size)⟩
        · have HU := Lib.hid hu
          clear hu
          go_wp2_with fail
          refine (band_build_bad a c l wx HRL.out (by omega) NL.out HU.out).mono ?_
          rintro e w1 ⟨rfl, hb1⟩
          have HRG1 := Lib.hid (HRG.out.below hb1)
          have HB1 := Lib.hid (HBI.out.trans (hb1.mono HBI.out.size))
          clear hb1 HRG HBI HRL
          go_wp2_with fail
          refine (band_build_bad ag kg LM w1 HRG1.out (by omega) NB.out (UB.out.trans HU.out)).mono ?_
          rintro e w2 ⟨rfl, hb2⟩
          have HB2 := Lib.hid (HB1.out.trans (hb2.mono HB1.out.size))
          clear hb2 HB1 HRG1 NL NB UB HU
          have hmb : min (BL.length : Int) 12 = (mb : Int) := HMB.out
          go_wp2_with (refine wp_sliceK elBx (HB.out.below HB2.out) HCB.out 0 mb (Nat.zero_le _) hmb1 rfl _ _ _ rfl rfl rfl rfl ?_; intro ad' hr; simp only [Nat.sub_zero, List.drop_zero] at hr ⊢)
          have hPl : (BL.take mb).length = mb := by simp; omega
          have HPR := Lib.hid hr
          have HPF : Hid (∀ x ∈ BL.take mb, x.wf) := fun x hx => HBF.out x (List.mem_of_mem_take hx)
          clear hr hmb HMB HB HCB hmb1 HBF
          generalize BL.take mb = P at *
          subst hPl
          go_loopw [60] (fun kv wr => ∃ k : Nat, kv = .int .i64 k ∧ k ≤ P.length ∧ Hid (Below w2.heap.size w2 wr)) (fun kv _ => P.length - (intOf kv).toNat)
          case atStart => exact ⟨0, rfl, Nat.zero_le _, Lib.hid (Below.refl _ _)⟩
          case round =>
            obtain ⟨k, rfl, hk, HBK⟩ := hrel
            by_cases hkl : k < P.length
            · have hb := HBK.out
              obtain ⟨b9, off9, ea, hbl, hcs⟩ := (HPR.out.below hb).get (by omega)
              have x0 := hcs k hkl 0 (by omega)
              have x1 := hcs k hkl 1 (by omega)
              have x2 := hcs k hkl 2 (by omega)
              have x3 := hcs k hkl 3 (by omega)
              have x4 := hcs k hkl 4 (by omega)
              simp only [eBx, List.getElem?_cons_zero, List.getElem?_cons_succ, Nat.add_zero] at x0 x1 x2 x3 x4
              obtain ⟨f1, f2, f3, f4, -⟩ := HPF.out P[k] (List.getElem_mem _)
              have f1 := wf64 f1
              have f2 := wf64 f2
              have f3 := wf64 f3
              have f4 := wf64 f4
              simp only [leastI, mostI] at f1 f2 f3 f4
              have EA := Lib.hid ea
              clear hcs ea
              generalize P[k] = q at *
              obtain ⟨q1, q2, q3, q4, q5⟩ := q
              simp only at x0 x1 x2 x3 x4 f1 f2 f3 f4
              have hkl2 : (k : Int) < (P.length : Int) := by omega
              obtain rfl := EA.out
              clear EA
              obtain ⟨w7, ew7⟩ : ∃ w7, w7 = wr.alloc (.cells #[.int .i64 q1, .int .i64 q2, .int .i64 q3, .int .i64 q4, .int .u32 q5] 51) := ⟨_, rfl⟩
              have b7 : Below wr.heap.size wr w7 := by rw [ew7]; exact (Below.refl _ _).alloc (Nat.le_refl _) _
              have X7 : w7.heap[wr.heap.size]? = some (objBx (q1, q2, q3, q4, q5)) := by rw [ew7]; exact lit0 _ _
              have B7 := hb.trans (b7.mono hb.size)
              have EX := ew7.symm
              obtain ⟨y0, y1, y2, y3, y4⟩ := objBx_cells X7
              clear ew7 b7 hb
              have XH := Lib.hid X7
              clear X7
              go_wp2_with fail
              have X7 := XH.out
              (try rw [EX])
              clear XH EX x0 x1 x2 x3 x4 y0 y1 y2 y3 y4
              refine (band_report_nil _ q1 q2 q3 q4 q5).mono ?_
              rintro e w8 ⟨rfl, hb8⟩
              have B8 := B7.trans (hb8.mono B7.size)
              have X8 := (hb8.block _ (Array.getElem?_eq_some_iff.1 X7).1).trans X7
              clear B7 X7 hb8
              obtain ⟨y0, y1, y2, y3, y4⟩ := objBx_cells X8
              have XH := Lib.hid X8
              clear X8
              go_wp2_with fail
              have X8 := XH.out
              clear XH y0 y1 y2 y3 y4
              refine (band_report_nil _ (-1 - q4) (-1 - q3) (-1 - q2) (-1 - q1) 7).mono ?_
              rintro e w9 ⟨rfl, hb9⟩
              have B9 := B8.trans (hb9.mono B8.size)
              clear B8 X8 hb9
              go_wp2_with fail
              refine (same10 none none [] [] 0 0 0 0 w9 rfl rfl .nil .nil (by omega) (by omega)).mono ?_
              rintro e w11 ⟨rfl, hb11⟩
              have B11 := B9.trans (hb11.mono B9.size)
              have hdt : decide (([] : List Int) = []) = true := by simp
              clear B9 hb11
              go_wp2
              exact ⟨⟨k + 1, by go_num, by omega, Lib.hid B11⟩, by simp [intOf]; omega⟩
            · obtain rfl : k = P.length := by omega
              have HBZ := Lib.hid (HB2.out.trans (HBK.out.mono HB2.out.size))
              go_wp2_with (go_at_call 34; refine (AW.out _).mono ?_; rintro e w9 ⟨rfl, hb9⟩)
              go_ret
              exact ⟨rfl, HBZ.out.trans (hb9.mono HBZ.out.size)⟩
  · have dl : decide (80 < (l.length : Int)) = true := by simp; omega
    go_enter Tryz.func7, Tryz.ntmps7
    go_wp2_with (go_at_call 34; refine (AW.out _).mono ?_; rintro e w3 ⟨rfl, hb3⟩)
    go_ret
    exact ⟨rfl, hb3⟩
end Go.Proofs.YthpgkldpbbajfaaGreat
