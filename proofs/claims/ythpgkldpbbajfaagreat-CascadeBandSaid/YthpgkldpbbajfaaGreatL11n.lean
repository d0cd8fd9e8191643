/- The law CascadeBand, walked. -/
import Derived.Test.YthpgkldpbbajfaaGreatL11e
import Derived.Test.YthpgkldpbbajfaaGreatBan
import Derived.Test.YthpgkldpbbajfaaGreatQ7
import Derived.Deep.CutRange
namespace Go.Proofs.YthpgkldpbbajfaaGreat
open Go.RowKit Go.Maps
attribute [local irreducible] wpQuiet
set_option linter.unusedSimpArgs false
set_option linter.unusedVariables false

theorem elU8n : ElemOK Tryz.prog 42 5 1 1 := .mk' (z := .int .u8 0) Tryz.underlying42 (by kernel_rfl) rfl (by decide)

set_option maxRecDepth 100000 in
set_option maxHeartbeats 8000000 in
theorem wCascadeBand (a : Option Addr) (l : List Pt) (n c : Nat) (ab : Option Addr) (BL : List Bx) (nb kb : Nat) (b : Option Addr) (D : List Int) (m c' : Nat) (w : World) (hn : l.length = n) (h : RdK ePt 3 w a l) (hf : ∀ p ∈ l, (Lit.int .i64 p.1).wf = true ∧ (Lit.int .i64 p.2.1).wf = true ∧ (Lit.int .u32 p.2.2).wf = true)
    (hnb : BL.length = nb) (hB : RdK eBx 5 w ab BL) (hcb : nb ≤ kb ∧ kb ≤ maxLen) (hm : D.length = m) (h' : Rd (.int .u8) w b D) (hc' : m ≤ c' ∧ c' ≤ maxLen) (hD : ∀ x ∈ D, (Lit.int .u8 x).wf = true) :
    Calls Tryz.prog 5 #[.slice a n c, .slice ab nb kb, .slice b m c'] w fun e w' => e = .returned (.bool true) ∧ Below w.heap.size w w' := by
  subst hn hm hnb
  have hw : wfN l := fun p hp => (hf p hp).2.2
  have AW := Lib.hid (fun W => awake11 W)
  by_cases hlen : l.length ≤ 100
  · have dl : decide (100 < (l.length : Int)) = false := by simp; omega
    rcases Bool.eq_false_or_eq_true (unl l) with hu | hu
    · have cd := Lib.hid (dropped11_all a b l D _ _ c c' w rfl rfl hc' h h' hD (by omega) hw hu)
      have HBB := Lib.hid (fun W (r : RdK ePt 3 W a l) => bBuild a c l W r (by omega) hw hu)
      have HB := Lib.hid hB
      have HCB := Lib.hid hcb.1
      have HR := Lib.hid h
      have HR' := Lib.hid h'
      have HD := Lib.hid hD
      have hcd1 := hc'.1
      have DR := Lib.hid (fun (w : World) (lo hi tb n0 : Nat) (l' : List Pt) (h : BanAt w lo hi tb n0 l') p => bDrop h p)
      clear hD hw hf h h' hB hcb hu hc'
      obtain ⟨md, hmd, hmd1, hmd2⟩ : ∃ m : Nat, min (D.length : Int) 100 = (m : Int) ∧ m ≤ D.length ∧ m ≤ 100 := ⟨min D.length 100, by omega, by omega, by omega⟩
      have e9 : D.take 100 = D.take md := by
        rcases Nat.lt_or_ge D.length 100 with h | h
        · rw [List.take_of_length_le (by omega), List.take_of_length_le (by omega)]
        · have : md = 100 := by omega
          rw [this]
      rw [e9] at cd
      have HMD := Lib.hid hmd
      clear e9 hmd
      go_enter Tryz.func5, Tryz.ntmps5
      go_wp2_with fail
      refine cd.out.mono ?_
      rintro e w1 ⟨tb, lo, hi, rfl, T1, hlo, hb1⟩
      have HT1 := Lib.hid T1
      have HB1 := Lib.hid hb1
      clear T1 hb1 cd
      go_wp2_with fail
      refine (HBB.out _ (HR.out.below HB1.out)).mono ?_
      rintro e w2 ⟨ub, rfl, U2, hb2⟩
      have HT2 := Lib.hid (HT1.out.below hb2 HT1.out.hi_le)
      have HU2 := Lib.hid U2
      have hs12 := hb2.size
      have hs01 := HB1.out.size
      have hhi1 := HT1.out.hi_le
      have HB2 := Lib.hid (HB1.out.trans (hb2.mono HB1.out.size))
      have hmd := HMD.out
      clear U2 hb2 HT1 HB1 HBB
      go_wp2
      clear hmd
      (try rw [show (md : Int).toNat = md by omega, show max (md : Int) 0 = (md : Int) by omega])
      go_loopw [51] (fun iv wr => ∃ (i : Nat), iv = .int .i64 i ∧ i ≤ md ∧ Hid (BanAt wr w1.heap.size w2.heap.size ub l.length (dpl l (D.take i))) ∧ Hid (TreeAt wr lo hi tb l.length (dpl l (D.take md))) ∧ Below w.heap.size w wr) (fun iv _ => md - (intOf iv).toNat)
      case atStart => exact ⟨0, rfl, Nat.zero_le _, Lib.hid (by rw [List.take_zero, dpl_nil]; exact HU2.out), HT2, HB2.out⟩
      case round =>
        obtain ⟨i, rfl, hi', HU, HT, hb⟩ := hrel
        by_cases him : i < md
        · obtain ⟨b', off', ea, hbl, hcs⟩ := (HR'.out.below hb).get (by omega)
          have x0 := hcs i (by omega)
          have wf0 := HD.out D[i] (List.getElem_mem _)
          have HDS : Hid (∀ h0 : 0 < l.length, dpl l (D.take (i + 1)) = (dpl l (D.take i)).filter fun q => decide (q ≠ l[D[i].toNat % l.length]'(Nat.mod_lt _ h0))) := fun h0 => dpl_succ l D (by omega) h0
          have HDZ : Hid (l.length = 0 → dpl l (D.take (i + 1)) = dpl l (D.take i)) := fun h => by rw [dpl_none h, dpl_none h]
          have EA := Lib.hid ea
          clear hcs ea
          generalize D[i] = d at *
          obtain rfl := EA.out
          clear EA
          have hd0 : 0 ≤ d ∧ d ≤ 255 := by
            simp [Lit.wf, IntKind.min, IntKind.max, IntKind.signed, IntKind.bits] at wf0
            omega
          obtain ⟨e, rfl⟩ : ∃ e : Nat, d = e := ⟨d.toNat, by omega⟩
          have him2 : (i : Int) < (md : Int) := by omega
          by_cases h0 : 0 < l.length
          · have hj : e % l.length < l.length := Nat.mod_lt _ h0
            obtain ⟨b2, off2, ea2, hbl2, hcs2⟩ := (HR.out.below hb).get h0
            have z0 := hcs2 (e % l.length) hj 0 (by omega)
            have z1 := hcs2 (e % l.length) hj 1 (by omega)
            have z2 := hcs2 (e % l.length) hj 2 (by omega)
            simp only [ePt, List.getElem?_cons_zero, List.getElem?_cons_succ, Nat.add_zero] at z0 z1 z2
            have EA := Lib.hid ea2
            clear hcs2 ea2
            obtain ⟨p, hp⟩ : ∃ p, p = l[e % l.length] := ⟨_, rfl⟩
            rw [← hp] at z0 z1 z2
            have HD1 : Hid (dpl l (D.take (i + 1)) = (dpl l (D.take i)).filter fun q => decide (q ≠ p)) := by
              show _ = _
              rw [HDS.out h0, hp]
              rfl
            have DP := Lib.hid (DR.out wr _ _ _ _ _ HU.out p)
            clear HDS HDZ hp
            obtain ⟨px, py, pi⟩ := p
            simp only at z0 z1 z2
            obtain rfl := EA.out
            clear EA
            have hl0 : (0 : Int) < (l.length : Int) := by omega
            have hmod : Int.tmod (e : Int) (l.length : Int) = ((e % l.length : Nat) : Int) := by
              rw [Int.tmod_eq_emod_of_nonneg (by omega)]
              omega
            go_wp2_with (go_at_call 26; refine DP.out.mono ?_; rintro e' w4 ⟨rfl, hU4, hk4⟩)
            exact ⟨⟨i + 1, by go_num, by omega, Lib.hid (by rw [HD1.out]; exact hU4), Lib.hid (HT.out.kept hk4 (fun k h1 h2 h3 => by have := h3.1; omega)), hb.trans (hk4.toBelow hb.size (fun k h => by have := h.1; omega))⟩, by simp [intOf]; omega⟩
          · have hl0 : l.length = 0 := by omega
            go_wp2
            go_roundw
            case rel => exact ⟨i + 1, by go_num, by omega, Lib.hid (by rw [HDZ.out hl0]; exact HU.out), HT, hb⟩
            case measure => simp [intOf]; omega
        · obtain rfl : i = md := by omega
          have few := HU.out.few2
          generalize dpl l (D.take i) = L at *
          obtain ⟨w3, ew3⟩ : ∃ w3 : World, w3 = wr := ⟨_, rfl⟩
          subst ew3
          obtain ⟨mb, hmb, hmb1, hmb2⟩ : ∃ m : Nat, min (BL.length : Int) 14 = (m : Int) ∧ m ≤ BL.length ∧ m ≤ 14 := ⟨min BL.length 14, by omega, by omega, by omega⟩
          have LT := Lib.hid (fun W (hb : Below w3.heap.size w3 W) => tLen (HT.out.below hb HT.out.hi_le))
          have LU := Lib.hid (fun W (hb : Below w3.heap.size w3 W) => bLen (HU.out.below hb HU.out.hi_le))
          go_wp2_with (refine wp_sliceK elBx (HB.out.below hb) HCB.out 0 mb (Nat.zero_le _) hmb1 rfl _ _ _ rfl rfl rfl rfl ?_; intro ad' hr; simp only [Nat.sub_zero, List.drop_zero] at hr ⊢)
          have hPl : (BL.take mb).length = mb := by simp; omega
          have HPR := Lib.hid hr
          have HB3 := Lib.hid hb
          clear hr hmb HB HCB hmb1 hb
          generalize BL.take mb = P at *
          subst hPl
          go_loopw [75] (fun kv wr => ∃ k : Nat, kv = .int .i64 k ∧ k ≤ P.length ∧ Hid (Below w3.heap.size w3 wr)) (fun kv _ => P.length - (intOf kv).toNat)
          case atStart => exact ⟨0, rfl, Nat.zero_le _, Lib.hid (Below.refl _ _)⟩
          case round =>
            obtain ⟨k, rfl, hk, HBK⟩ := hrel
            by_cases hkl : k < P.length
            · have hb := HBK.out
              obtain ⟨b9, off9, ea, hbl, hcs⟩ := (HPR.out.below hb).get (by omega)
              have x0 := hcs k hkl 0 (by omega)
              have x1 := hcs k hkl 1 (by omega)
              have x2 := hcs k hkl 2 (by omega)
              have x3 := hcs k hkl 3 (by omega)
              have x4 := hcs k hkl 4 (by omega)
              simp only [eBx, List.getElem?_cons_zero, List.getElem?_cons_succ, Nat.add_zero] at x0 x1 x2 x3 x4
              have EA := Lib.hid ea
              clear hcs ea
              generalize P[k] = q at *
              obtain ⟨q1, q2, q3, q4, q5⟩ := q
              simp only at x0 x1 x2 x3 x4
              have hkl2 : (k : Int) < (P.length : Int) := by omega
              obtain rfl := EA.out
              clear EA
              obtain ⟨w6, ew6⟩ : ∃ w6, w6 = wr.alloc (.cells #[.int .i64 q1, .int .i64 q2, .int .i64 q3, .int .i64 q4, .int .u32 q5] 51) := ⟨_, rfl⟩
              have b6 : Below wr.heap.size wr w6 := by rw [ew6]; exact (Below.refl _ _).alloc (Nat.le_refl _) _
              have X6 : w6.heap[wr.heap.size]? = some (objBx (q1, q2, q3, q4, q5)) := by rw [ew6]; exact lit0 _ _
              have B6 := hb.trans (b6.mono hb.size)
              have EX := ew6.symm
              obtain ⟨y0, y1, y2, y3, y4⟩ := objBx_cells X6
              clear ew6 b6 hb
              have XH := Lib.hid X6
              clear X6
              go_wp2_with fail
              have X6 := XH.out
              (try rw [EX])
              clear XH EX x0 x1 x2 x3 x4 y0 y1 y2 y3 y4
              refine (tReport (HT.out.below B6 HT.out.hi_le) q1 q2 q3 q4 q5).mono ?_
              rintro e w7 ⟨v7, c7, rfl, -, hown7, hb7⟩
              obtain ⟨a7, k7, rfl, -, -, hr7⟩ := Rd.of_owns hown7
              have B7 := B6.trans (hb7.mono B6.size)
              have X7 := (hb7.block _ (Array.getElem?_eq_some_iff.1 X6).1).trans X6
              clear B6 X6 hb7
              have R7_7 := Lib.hid hr7
              clear hr7 hown7
              obtain ⟨y0, y1, y2, y3, y4⟩ := objBx_cells X7
              have XH := Lib.hid X7
              clear X7
              go_wp2_with fail
              have X7 := XH.out
              clear XH y0 y1 y2 y3 y4
              refine (bReport (HU.out.below B7 HU.out.hi_le) q1 q2 q3 q4 q5).mono ?_
              rintro e w8 ⟨v8, c8, rfl, -, hown8, hb8⟩
              obtain ⟨a8, k8, rfl, -, -, hr8⟩ := Rd.of_owns hown8
              have B8 := B7.trans (hb8.mono B7.size)
              have X8 := (hb8.block _ (Array.getElem?_eq_some_iff.1 X7).1).trans X7
              have R7_8 := Lib.hid (R7_7.out.below hb8)
              clear B7 X7 hb8 R7_7
              have R8_8 := Lib.hid hr8
              clear hr8 hown8
              obtain ⟨y0, y1, y2, y3, y4⟩ := objBx_cells X8
              have XH := Lib.hid X8
              clear X8
              go_wp2_with fail
              have X8 := XH.out
              clear XH y0 y1 y2 y3 y4
              refine (tCount (HT.out.below B8 HT.out.hi_le) q1 q2 q3 q4 q5).mono ?_
              rintro e w9 ⟨⟨c9, rfl, -⟩, hb9⟩
              have B9 := B8.trans (hb9.mono B8.size)
              have X9 := (hb9.block _ (Array.getElem?_eq_some_iff.1 X8).1).trans X8
              have R7_9 := Lib.hid (R7_8.out.below hb9)
              have R8_9 := Lib.hid (R8_8.out.below hb9)
              clear B8 X8 hb9 R7_8 R8_8
              obtain ⟨y0, y1, y2, y3, y4⟩ := objBx_cells X9
              have XH := Lib.hid X9
              clear X9
              go_wp2_with fail
              have X9 := XH.out
              clear XH y0 y1 y2 y3 y4
              refine (bCount (HU.out.below B9 HU.out.hi_le) q1 q2 q3 q4 q5).mono ?_
              rintro e w10 ⟨⟨c10, rfl, -⟩, hb10⟩
              have B10 := B9.trans (hb10.mono B9.size)
              have R7_10 := Lib.hid (R7_9.out.below hb10)
              have R8_10 := Lib.hid (R8_9.out.below hb10)
              clear B9 X9 hb10 R7_9 R8_9
              have hgN : (hasB L q1 q2 q3 q4).length ≤ 20000 := by rw [hasB_len]; exact Nat.le_trans (List.length_filter_le _ _) (by omega)
              generalize hasB L q1 q2 q3 q4 = N at *
              generalize (L.filter (inB q1 q2 q3 q4)).length = G at *
              go_wp2_with fail
              refine (same11 a7 a8 N N _ _ k7 k8 w10 rfl rfl R7_10.out R8_10.out (by omega) (by omega)).mono ?_
              rintro e w11 ⟨rfl, hb11⟩
              have B11 := B10.trans (hb11.mono B10.size)
              have hdt : decide (N = N) = true := by simp
              clear B10 hb11 R7_10 R8_10
              go_wp2
              exact ⟨⟨k + 1, by go_num, by omega, Lib.hid B11⟩, by simp [intOf]; omega⟩
            · obtain rfl : k = P.length := by omega
              have HBR := Lib.hid (HB3.out.trans (HBK.out.mono HB3.out.size))
              go_wp2_with fail
              refine (LT.out _ HBK.out).mono ?_
              rintro e w4 ⟨rfl, rfl⟩
              go_wp2_with fail
              refine (LU.out _ HBK.out).mono ?_
              rintro e w5 ⟨rfl, rfl⟩
              go_wp2_with (go_at_call 23; refine (AW.out _).mono ?_; rintro e w9 ⟨rfl, hb9⟩)
              go_ret
              exact ⟨rfl, HBR.out.trans (hb9.mono HBR.out.size)⟩
    · have cd := Lib.hid (dropped11_bad a b l D _ _ c c' w rfl rfl h h' (by omega) hw hu)
      have HBB := Lib.hid (fun W (r : RdK ePt 3 W a l) => band_build_bad a c l W r (by omega) hw hu)
      have HR := Lib.hid h
      clear hD hw hu hf h h'
      go_enter Tryz.func5, Tryz.ntmps5
      go_wp2_with fail
      refine cd.out.mono ?_
      rintro e w2 ⟨rfl, hb2⟩
      go_wp2_with fail
      refine (HBB.out _ (HR.out.below hb2)).mono ?_
      rintro e w3 ⟨rfl, hb3⟩
      have B3 := hb2.trans (hb3.mono hb2.size)
      go_wp2_with (go_at_call 23; refine (AW.out _).mono ?_; rintro e w4 ⟨rfl, hb4⟩)
      go_ret
      exact ⟨rfl, B3.trans (hb4.mono B3.size)⟩
  · have dl : decide (100 < (l.length : Int)) = true := by simp; omega
    go_enter Tryz.func5, Tryz.ntmps5
    go_wp2_with (go_at_call 23; refine (AW.out _).mono ?_; rintro e w3 ⟨rfl, hb3⟩)
    go_ret
    exact ⟨rfl, hb3⟩
end Go.Proofs.YthpgkldpbbajfaaGreat
