/- The law HeapBox, walked. -/
import Derived.Test.YtggfdlanobndjaaGreatL13w
import Derived.Test.YtggfdlanobndjaaGreatQ7
import Derived.Test.YtggfdlanobndjaaGreatQ3
namespace Go.Proofs.YtggfdlanobndjaaGreat
open Go.RowKit Go.Maps
attribute [local irreducible] wpQuiet
attribute [local go_sem] Oper.still1
set_option linter.unusedSimpArgs false
set_option linter.unusedVariables false

theorem ent_hdrop : ∀ args w, (callFunc 21 args).run Tryz.prog w = .ok (.enter 21 args) w := enters_of Tryz.func21 (by kernel_rfl) rfl
theorem ent_cdrop : ∀ args w, (callFunc 28 args).run Tryz.prog w = .ok (.enter 28 args) w := enters_of Tryz.func28 (by kernel_rfl) rfl
theorem has3_box {l L : List Pt} (hs : ∀ p ∈ L, p ∈ l) (hf : ∀ p ∈ l, (Lit.int .i64 p.1).wf = true ∧ (Lit.int .i64 p.2.1).wf = true ∧ (Lit.int .u32 p.2.2).wf = true) (x1 x2 y : Int) : hasB L x1 x2 (-9223372036854775808) y = has3 L x1 x2 y := by
  unfold hasB has3
  congr 2
  apply List.filter_congr
  intro p hp
  obtain ⟨-, h2, -⟩ := hf p (hs p hp)
  simp [Lit.wf, IntKind.min, IntKind.max, IntKind.signed, IntKind.bits] at h2
  simp only [inB, in3, decide_eq_decide]
  omega

set_option maxRecDepth 100000 in
set_option maxHeartbeats 8000000 in
theorem wHeapBox (a : Option Addr) (l : List Pt) (n c : Nat) (ab : Option Addr) (BL : List Sd) (nb kb : Nat) (b : Option Addr) (D : List Int) (m c' : Nat) (w : World) (hn : l.length = n) (h : RdK ePt 3 w a l) (hf : ∀ p ∈ l, (Lit.int .i64 p.1).wf = true ∧ (Lit.int .i64 p.2.1).wf = true ∧ (Lit.int .u32 p.2.2).wf = true)
    (hnb : BL.length = nb) (hB : RdK eSd 3 w ab BL) (hcb : nb ≤ kb ∧ kb ≤ maxLen) (hm : D.length = m) (h' : Rd (.int .u8) w b D) (hc' : m ≤ c' ∧ c' ≤ maxLen) (hD : ∀ x ∈ D, (Lit.int .u8 x).wf = true) :
    Calls Tryz.prog 8 #[.slice a n c, .slice ab nb kb, .slice b m c'] w fun e w' => e = .returned (.bool true) ∧ Below w.heap.size w w' := by
  subst hn hm hnb
  have hw : wfN l := fun p hp => (hf p hp).2.2
  have AW := Lib.hid (fun W => awake13 W)
  by_cases hlen : l.length ≤ 100
  · have dl : decide (100 < (l.length : Int)) = false := by simp; omega
    rcases Bool.eq_false_or_eq_true (unl l) with hu | hu
    · have cd := Lib.hid (hBuild a c l w h (by omega) hw hu)
      have HBB := Lib.hid (fun W (r : RdK ePt 3 W a l) => tBuild a c l W r (by omega) hw hu)
      have HB := Lib.hid hB
      have HCB := Lib.hid hcb.1
      have HR := Lib.hid h
      have HR' := Lib.hid h'
      have HD := Lib.hid hD
      have hcd1 := hc'.1
      have BX := Lib.hid (fun (L : List Pt) (hs : ∀ p ∈ L, p ∈ l) x1 x2 y => has3_box hs hf x1 x2 y)
      clear hD hw hf h h' hB hcb hu hc'
      obtain ⟨mb, hmb, hmb1, hmb2⟩ : ∃ m : Nat, min (BL.length : Int) 14 = (m : Int) ∧ m ≤ BL.length ∧ m ≤ 14 := ⟨min BL.length 14, by omega, by omega, by omega⟩
      have HMB := Lib.hid hmb
      clear hmb
      obtain ⟨m, hm, hm1, hmm⟩ : ∃ m : Nat, min (D.length : Int) 100 = (m : Int) ∧ m ≤ D.length ∧ m ≤ 100 := ⟨min D.length 100, by omega, by omega, by omega⟩
      have HM := Lib.hid hm
      clear hm
      go_enter Tryz.func8, Tryz.ntmps8
      go_wp2_with fail
      refine cd.out.mono ?_
      rintro e w1 ⟨tb, rfl, T1, hb1⟩
      have HT1 := Lib.hid T1
      have HB1 := Lib.hid hb1
      clear T1 hb1 cd
      go_wp2_with fail
      refine (HBB.out _ (HR.out.below HB1.out)).mono ?_
      rintro e w2 ⟨ub, rfl, U2, hb2⟩
      have HT2 := Lib.hid (HT1.out.below hb2 HT1.out.hi_le)
      have HU2 := Lib.hid U2
      have hs12 := hb2.size
      have hs01 := HB1.out.size
      have HB2 := Lib.hid (HB1.out.trans (hb2.mono HB1.out.size))
      clear U2 hb2 HT1 HB1 HBB
      have hm : min (D.length : Int) 100 = (m : Int) := HM.out
      go_wp2
      (try rw [hm, show (m : Int).toNat = m by omega, show max (m : Int) 0 = (m : Int) by omega])
      clear hm
      go_loopw [45] (fun iv wr => ∃ (i : Nat) (L : List Pt), iv = .int .i64 i ∧ i ≤ m ∧ Hid (HepAt wr w.heap.size w1.heap.size tb l.length L) ∧ Hid (TreeAt wr w1.heap.size w2.heap.size ub l.length L) ∧ Hid (∀ p ∈ L, p ∈ l) ∧ Hid (Below w.heap.size w wr)) (fun iv _ => m - (intOf iv).toNat)
      case atStart => exact ⟨0, l, rfl, Nat.zero_le _, HT2, HU2, Lib.hid (fun p h => h), HB2⟩
      case round =>
        obtain ⟨i, L, rfl, hi', HT, HU, HS, HBR⟩ := hrel
        by_cases him : i < m
        · obtain ⟨b', off', ea, hbl, hcs⟩ := (HR'.out.below HBR.out).get (by omega)
          have x0 := hcs i (by omega)
          have wf0 := HD.out D[i] (List.getElem_mem _)
          have EA := Lib.hid ea
          clear hcs ea
          generalize D[i] = d at *
          obtain rfl := EA.out
          clear EA
          have hd0 : 0 ≤ d ∧ d ≤ 255 := by
            simp [Lit.wf, IntKind.min, IntKind.max, IntKind.signed, IntKind.bits] at wf0
            omega
          obtain ⟨e, rfl⟩ : ∃ e : Nat, d = e := ⟨d.toNat, by omega⟩
          have him2 : (i : Int) < (m : Int) := by omega
          by_cases h0 : 0 < l.length
          · have hl0 : (0 : Int) < (l.length : Int) := by omega
            obtain ⟨j, hj, hmod⟩ : ∃ j : Nat, j < l.length ∧ Int.tmod (e : Int) (l.length : Int) = (j : Int) := ⟨e % l.length, Nat.mod_lt _ h0, by
              rw [Int.tmod_eq_emod_of_nonneg (by omega)]
              omega⟩
            obtain ⟨b2, off2, ea2, hbl2, hcs2⟩ := HR.out.get h0
            have z0 := hcs2 (j) hj 0 (by omega)
            have z1 := hcs2 (j) hj 1 (by omega)
            have z2 := hcs2 (j) hj 2 (by omega)
            simp only [ePt, List.getElem?_cons_zero, List.getElem?_cons_succ, Nat.add_zero] at z0 z1 z2
            have EA := Lib.hid ea2
            clear hcs2 ea2
            have DP := Lib.hid (hDrop (HT.out.below (Below.refl _ _).drew HT.out.hi_le) l[j])
            have DU := Lib.hid (fun W (hU : TreeAt W w1.heap.size w2.heap.size ub l.length L) => tDrop hU l[j])
            generalize l[j] = p at *
            obtain ⟨px, py, pi⟩ := p
            simp only at z0 z1 z2
            obtain rfl := EA.out
            clear EA
            go_upto_region 12 with fail
            clear x0
            have k0 := cell_belowW z0
            have k1 := cell_belowW z1
            have k2 := cell_belowW z2
            refine wp_region_head (fun W => ∃ p : BelowW w, W = p.W) [23, 24, 25] [(0, false), (1, false), (2, false), (3, false), (4, false), (5, false), (6, false), (7, false), (8, false), (9, false), (10, false), (11, false), (12, true), (14, false), (15, false), (16, false), (17, false), (18, false), (19, false), (20, false), (21, false), (22, true)] (by kernel_rfl) (by kernel_rfl) (fun _ _ d _ _ h => by cases d <;> exact h) ⟨⟨_, HBR.out.drew⟩, rfl⟩ 4 rfl (by kernel_rfl) ?_
            simp only [pickB, List.filterMap_cons, List.filterMap_nil, List.getElem?_toArray, List.getElem?_cons_succ, List.getElem?_cons_zero, Option.map_some]
            have hne : ¬ l = [] := by rintro rfl; simp at h0
            have hwe : IntKind.i64.wrap (e : Int) = (e : Int) := by rw [IntKind.wrap_i64]; omega
            repeat (refine wpHd_step (fun K hK => ?_); go_simp; first | (refine hK _ ?_; clear hK K) | (refine ⟨.int .i64 (j : Int), fun W => by rw [if_neg hne, hwe, hmod], hK _ ?_⟩; clear hK K) | (apply Exists.intro; refine ⟨fun _ => ?_, hK _ ?_⟩; rfl; clear hK K))
            refine wpHd_nil ?_
            refine wpAnyT_ready [13] (by kernel_rfl) (by simp) ?_
            refine AllReadyT.cons rfl (fun K hK => ?_) AllReadyT.nil
            refine step_callW ent_hdrop (by first | rfl | (go_simp; done)) _ _ _ rfl #[] rfl (vals := #[.pointer (some ⟨tb, 0, none⟩), vPt px py pi]) rfl DP.out ?_
            rintro e' w4 ⟨rfl, hT4, hk4⟩
            have B4 := HBR.out.drew.trans (hk4.toBelow HBR.out.drew.size (fun k h => h.1))
            have hU4 := (HU.out.below (Below.refl _ _).drew HU.out.hi_le).kept hk4 (fun k h1 h2 h3 => by have := h3.2; omega)
            refine ⟨_, rfl, hK _ _ (fun _ _ => ⟨⟨_, B4⟩, rfl⟩) ?_⟩
            clear hK K
            refine wpAnyT_ready [23] (by kernel_rfl) (by simp) ?_
            refine AllReadyT.cons rfl (fun K hK => ?_) AllReadyT.nil
            refine step_callW ent_cdrop (by first | rfl | (go_simp; done)) _ _ _ rfl #[] rfl (vals := #[.pointer (some ⟨ub, 0, none⟩), vPt px py pi]) rfl (DU.out w4 hU4) ?_
            rintro e' w5 ⟨rfl, hU5, hk5⟩
            refine ⟨_, rfl, hK _ _ (fun _ h => absurd (by simp) h) ?_⟩
            clear hK K
            refine wpAnyT_line [24, 25] _ _ _ (by kernel_rfl) ?_
            simp only [pick, List.filterMap_cons, List.filterMap_nil, List.getElem?_toArray, List.getElem?_cons_succ, List.getElem?_cons_zero]
            have HT5 := Lib.hid (hT4.kept hk5 (fun k h1 h2 h3 => by have := h3.1; omega))
            have HU5 := Lib.hid hU5
            have HB5 := Lib.hid (B4.trans (hk5.toBelow B4.size (fun k h => by have := h.1; omega)))
            have HS5 : Hid (∀ p ∈ L.filter (fun q => decide (q ≠ (px, py, pi))), p ∈ l) := fun p h => HS.out p (List.mem_filter.1 h).1
            clear hT4 hk4 B4 hU4 hU5 hk5 DP DU HT HU HS HBR k0 k1 k2
            go_wp2
            exact ⟨⟨i + 1, _, by go_num, by omega, HT5, HU5, HS5, HB5⟩, by simp [intOf]; omega⟩
          · have hl0 : l.length = 0 := by omega
            go_wp2
            go_region
            all_goals
              go_wp2
              go_roundw
              case rel => exact ⟨i + 1, L, by go_num, by omega, Lib.hid (HT.out.below (Below.refl _ _).drew HT.out.hi_le), Lib.hid (HU.out.below (Below.refl _ _).drew HU.out.hi_le), HS, Lib.hid HBR.out.drew⟩
              case measure => simp [intOf]; omega
        · obtain rfl : i = m := by omega
          have few := HT.out.few2
          obtain ⟨w3, ew3⟩ : ∃ w3 : World, w3 = wr := ⟨_, rfl⟩
          subst ew3
          have LT := Lib.hid (fun W (hb : Below w3.heap.size w3 W) => hLen (HT.out.below hb HT.out.hi_le))
          have LU := Lib.hid (fun W (hb : Below w3.heap.size w3 W) => tLen (HU.out.below hb HU.out.hi_le))
          have BXL := Lib.hid (BX.out L HS.out)
          have hmb : min (BL.length : Int) 14 = (mb : Int) := HMB.out
          clear BX HS
          go_wp2_with (refine wp_sliceK elSd (HB.out.below HBR.out) HCB.out 0 mb (Nat.zero_le _) hmb1 rfl _ _ _ rfl rfl rfl rfl ?_; intro ad' hr; simp only [Nat.sub_zero, List.drop_zero] at hr ⊢)
          have hPl : (BL.take mb).length = mb := by simp; omega
          have HPR := Lib.hid hr
          clear hr hmb HMB HB HCB hmb1
          generalize BL.take mb = P at *
          subst hPl
          go_loopw [82] (fun kv wr => ∃ k : Nat, kv = .int .i64 k ∧ k ≤ P.length ∧ Hid (Below w3.heap.size w3 wr)) (fun kv _ => P.length - (intOf kv).toNat)
          case atStart => exact ⟨0, rfl, Nat.zero_le _, Lib.hid (Below.refl _ _)⟩
          case round =>
            obtain ⟨k, rfl, hk, HBK⟩ := hrel
            by_cases hkl : k < P.length
            · have hb := HBK.out
              obtain ⟨b9, off9, ea, hbl, hcs⟩ := (HPR.out.below hb).get (by omega)
              have x0 := hcs k hkl 0 (by omega)
              have x1 := hcs k hkl 1 (by omega)
              have x2 := hcs k hkl 2 (by omega)
              simp only [eSd, List.getElem?_cons_zero, List.getElem?_cons_succ, Nat.add_zero] at x0 x1 x2
              have EA := Lib.hid ea
              clear hcs ea
              generalize P[k] = q at *
              obtain ⟨q1, q2, q3⟩ := q
              simp only at x0 x1 x2
              have hkl2 : (k : Int) < (P.length : Int) := by omega
              obtain rfl := EA.out
              clear EA
              obtain ⟨w7, ew7⟩ : ∃ w7, w7 = wr.alloc (.cells #[.int .i64 q1, .int .i64 q2, .int .i64 q3] 50) := ⟨_, rfl⟩
              have b7 : Below wr.heap.size wr w7 := by rw [ew7]; exact (Below.refl _ _).alloc (Nat.le_refl _) _
              have X7 : w7.heap[wr.heap.size]? = some (objSd (q1, q2, q3)) := by rw [ew7]; exact lit0 _ _
              have B7 := hb.trans (b7.mono hb.size)
              have EX := ew7.symm
              obtain ⟨y0, y1, y2⟩ := objSd_cells X7
              clear ew7 b7 hb
              have XH := Lib.hid X7
              clear X7
              go_wp2_with fail
              have X7 := XH.out
              (try rw [EX])
              clear XH EX x0 x1 x2 y0 y1 y2
              refine (hThree (HT.out.below B7 HT.out.hi_le) q1 q2 q3).mono ?_
              rintro e w8 ⟨v8, c8, rfl, -, hown8, hb8⟩
              obtain ⟨a8, k8, rfl, -, -, hr8⟩ := Rd.of_owns hown8
              have B8 := B7.trans (hb8.mono B7.size)
              have X8 := (hb8.block _ (Array.getElem?_eq_some_iff.1 X7).1).trans X7
              have R8_8 := Lib.hid hr8
              clear B7 X7 hb8 hown8 hr8
              obtain ⟨y0, y1, y2⟩ := objSd_cells X8
              have XH := Lib.hid X8
              clear X8
              go_wp2_with fail
              clear XH y0 y1 y2
              have ct := tReport (HU.out.below B8 HU.out.hi_le) q1 q2 (-9223372036854775808) q3 0
              rw [BXL.out] at ct
              refine ct.mono ?_
              rintro e w10 ⟨v9, c9, rfl, -, hown9, hb9⟩
              obtain ⟨a9, k9, rfl, -, -, hr9⟩ := Rd.of_owns hown9
              have B10 := B8.trans (hb9.mono B8.size)
              have R8_10 := Lib.hid (R8_8.out.below hb9)
              have R9_10 := Lib.hid hr9
              clear B8 hb9 hown9 hr9 R8_8 ct
              have hgN : (has3 L q1 q2 q3).length ≤ 20000 := by rw [has3_len]; exact Nat.le_trans (List.length_filter_le _ _) (by omega)
              generalize has3 L q1 q2 q3 = N at *
              go_wp2_with fail
              refine (same13 a8 a9 N N _ _ k8 k9 w10 rfl rfl R8_10.out R9_10.out (by omega) (by omega)).mono ?_
              rintro e w11 ⟨rfl, hb11⟩
              have B11 := B10.trans (hb11.mono B10.size)
              have hdt : decide (N = N) = true := by simp
              clear B10 hb11 R8_10 R9_10
              go_wp2
              exact ⟨⟨k + 1, by go_num, by omega, Lib.hid B11⟩, by simp [intOf]; omega⟩
            · obtain rfl : k = P.length := by omega
              have HBZ := Lib.hid (HBR.out.trans (HBK.out.mono HBR.out.size))
              go_wp2_with fail
              refine (LT.out _ HBK.out).mono ?_
              rintro e w4 ⟨rfl, rfl⟩
              go_wp2_with fail
              refine (LU.out _ HBK.out).mono ?_
              rintro e w5 ⟨rfl, rfl⟩
              go_wp2_with (go_at_call 15; refine (AW.out _).mono ?_; rintro e w9 ⟨rfl, hb9⟩)
              go_ret
              exact ⟨rfl, HBZ.out.trans (hb9.mono HBZ.out.size)⟩
    · have cd := Lib.hid (heap_build_bad a c l w h (by omega) hw hu)
      have HBB := Lib.hid (fun W (r : RdK ePt 3 W a l) => casc_build_bad a c l W r (by omega) hw hu)
      have HR := Lib.hid h
      clear hD hw hu hf h h'
      go_enter Tryz.func8, Tryz.ntmps8
      go_wp2_with fail
      refine cd.out.mono ?_
      rintro e w2 ⟨rfl, hb2⟩
      go_wp2_with fail
      refine (HBB.out _ (HR.out.below hb2)).mono ?_
      rintro e w3 ⟨rfl, hb3⟩
      have B3 := hb2.trans (hb3.mono hb2.size)
      go_wp2_with (go_at_call 15; refine (AW.out _).mono ?_; rintro e w4 ⟨rfl, hb4⟩)
      go_ret
      exact ⟨rfl, B3.trans (hb4.mono B3.size)⟩
  · have dl : decide (100 < (l.length : Int)) = true := by simp; omega
    go_enter Tryz.func8, Tryz.ntmps8
    go_wp2_with (go_at_call 15; refine (AW.out _).mono ?_; rintro e w3 ⟨rfl, hb3⟩)
    go_ret
    exact ⟨rfl, hb3⟩
end Go.Proofs.YtggfdlanobndjaaGreat
