/- The law LowBegins, walked. -/
import Derived.Test.YtggfdlanobndjaaGreatL14a
import Derived.Test.YtggfdlanobndjaaGreatL14q
import Derived.Test.YtggfdlanobndjaaGreatHdv
import Derived.Test.YtggfdlanobndjaaGreatQ6
namespace Go.Proofs.YtggfdlanobndjaaGreat
open Go.RowKit Go.Maps
attribute [local irreducible] wpQuiet
attribute [local go_sem] Oper.still1
set_option linter.unusedSimpArgs false
set_option linter.unusedVariables false

theorem ent_same14c : ∀ args w, (callFunc 38 args).run Tryz.prog w = .ok (.enter 38 args) w := enters_of Tryz.func38 (by kernel_rfl) rfl
theorem many_take {l : List Pt} {x1 x2 : Int} {k : Nat} (hk : k < l.length) : ((l.take (k + 1)).filter (inX x1 x2)).length = ((l.take k).filter (inX x1 x2)).length + (if inX x1 x2 l[k] then 1 else 0) := by
  rw [List.take_succ_eq_append_getElem hk, List.filter_append, List.length_append]
  by_cases h : inX x1 x2 l[k] = true
  · simp [h]
  · simp [h]
def k2cap : Value → Nat
  | .slice _ _ c => c
  | _ => 0
theorem lws_many (l : List Pt) (x1 x2 : Int) : (lws l x1 x2).length = (l.filter (inX x1 x2)).length := (srtY_perm _).length_eq

set_option maxRecDepth 100000 in
set_option maxHeartbeats 8000000 in
theorem wLowBegins (a : Option Addr) (l : List Pt) (n c : Nat) (x1 x2 kw : Int) (w : World) (hn : l.length = n) (h : RdK ePt 3 w a l) (hf : ∀ p ∈ l, (Lit.int .i64 p.1).wf = true ∧ (Lit.int .i64 p.2.1).wf = true ∧ (Lit.int .u32 p.2.2).wf = true) (hkw : (Lit.int .u8 kw).wf = true) :
    Calls Tryz.prog 11 #[.slice a n c, .int .i64 x1, .int .i64 x2, .int .u8 kw] w fun e w' => e = .returned (.bool true) ∧ Below w.heap.size w w' := by
  subst hn
  have hw : wfN l := fun p hp => (hf p hp).2.2
  have AW := Lib.hid (fun W => awake14 W)
  by_cases hlen : l.length ≤ 80
  · have dl : decide (80 < (l.length : Int)) = false := by simp; omega
    have hk0 : 0 ≤ kw ∧ kw ≤ 255 := by
      simp [Lit.wf, IntKind.min, IntKind.max, IntKind.signed, IntKind.bits] at hkw
      omega
    obtain ⟨k, rfl⟩ : ∃ k : Nat, kw = k := ⟨kw.toNat, by omega⟩
    obtain ⟨kk, hkk⟩ : ∃ kk, kk = k % 101 := ⟨_, rfl⟩
    have hmod : Int.tmod (k : Int) 101 = (kk : Int) := by
      rw [Int.tmod_eq_emod_of_nonneg (by omega), hkk]
      omega
    have hkk1 : kk ≤ 100 := by omega
    have hwk : IntKind.i64.wrap (k : Int) = (k : Int) := by rw [IntKind.wrap_i64]; omega
    clear hf hkk hkw
    rcases Bool.eq_false_or_eq_true (unl l) with hu | hu
    · have cd := Lib.hid (lBuild a c l w h (by omega) hw hu)
      have hu' : (ids l).Nodup := by unfold unl at hu; simpa using hu
      obtain ⟨S, hS⟩ : ∃ S, S = lws l x1 x2 := ⟨_, rfl⟩
      have hSl : S.length ≤ l.length := by rw [hS]; exact lws_len l x1 x2
      have HSRT : Hid (S.Pairwise ltY) := by show S.Pairwise ltY; rw [hS]; exact lws_srt hu' x1 x2
      have HIN : Hid (∀ p ∈ S, x1 ≤ p.1 ∧ p.1 ≤ x2) := fun p hp => by
        rw [hS, lws_mem] at hp
        have := hp.2
        unfold inX at this
        simpa using this
      have HMN : Hid (S.length = (l.filter (inX x1 x2)).length) := by show _ = _; rw [hS, lws_many]
      have HS := Lib.hid hS
      have HR := Lib.hid h
      clear h hw hu hu' hS
      go_enter Tryz.func11, Tryz.ntmps11
      go_wp2_with fail
      refine cd.out.mono ?_
      rintro e w1 ⟨tb, rfl, T1, hb1⟩
      have HT1 := Lib.hid T1
      have HB1 := Lib.hid hb1
      clear T1 hb1 cd
      go_wp2_with fail
      refine (lLows HT1.out x1 x2 1000).mono ?_
      rintro e w2 ⟨⟨v2, c2, A, hA, rfl, hown2, -, -⟩, hb2⟩
      rw [← HS.out, List.take_of_length_le (by simp; omega)] at hA
      have hA' := hA.symm
      subst hA'
      clear hA
      have hcap2 : S.length ≤ k2cap v2 := by
        rcases hown2.2 with ⟨e9, h9⟩ | ⟨g', cap', cur, e9, q2, q3, q4, -⟩
        · omega
        · rw [e9]; exact q4
      obtain ⟨a2, k2, rfl, -, -, hr2⟩ := RdK.of_owns ePt_len (by decide) hown2
      have HCAP : Hid (S.length ≤ k2) := hcap2
      have HR2 := Lib.hid hr2
      have HT2 := Lib.hid (HT1.out.below hb2 HT1.out.hi_le)
      have HB2 := Lib.hid (HB1.out.trans (hb2.mono HB1.out.size))
      clear hcap2 hown2 hb2 hr2 HT1 HB1
      go_wp2_with fail
      refine (lLows HT2.out x1 x2 (kk : Int)).mono ?_
      rintro e w3 ⟨⟨v3, c3, F, hF, rfl, hown3, -, -⟩, hb3⟩
      rw [← HS.out, Int.toNat_natCast] at hF
      obtain ⟨a3, k3, rfl, -, -, hr3⟩ := RdK.of_owns ePt_len (by decide) hown3
      have HF := Lib.hid hF
      have HR3 := Lib.hid hr3
      have HR23 := Lib.hid (HR2.out.below hb3)
      have HT3 := Lib.hid (HT2.out.below hb3 HT2.out.hi_le)
      have HB3 := Lib.hid (HB2.out.trans (hb3.mono HB2.out.size))
      have HFL : Hid (F.length = min S.length kk) := by show _ = _; rw [hF, List.length_take]; omega
      clear hown3 hb3 hr3 hF HR2 HT2 HB2
      go_wp2_with fail
      refine (lLowest HT3.out x1 x2).mono ?_
      rintro e w4 ⟨⟨p, hp, cp, rfl, -⟩, hb4⟩
      rw [← HS.out] at hp ⊢
      have HP := Lib.hid hp
      obtain ⟨fp, hfp⟩ : ∃ fp, fp = S.head?.isSome := ⟨_, rfl⟩
      rw [← hfp]
      have HFP := Lib.hid hfp
      clear hfp
      obtain ⟨p1, p2, p3⟩ := p
      obtain ⟨w5, ew5⟩ : ∃ w5, w5 = w4.alloc (.cells #[.int .i64 p1, .int .i64 p2, .int .u32 p3] 34) := ⟨_, rfl⟩
      have hb5 : Below w4.heap.size w4 w5 := by rw [ew5]; exact (Below.refl _ _).alloc (Nat.le_refl _) _
      have hx5 : w5.heap[w4.heap.size]? = some (obP (p1, p2, p3)) := by rw [ew5]; exact lit0 w4 _
      have hb45 := hb4.trans (hb5.mono hb4.size)
      have HB5 := Lib.hid (HB3.out.trans (hb45.mono HB3.out.size))
      have HR5 := Lib.hid (HR23.out.below hb45)
      have HF5 := Lib.hid (HR3.out.below hb45)
      obtain ⟨y0, y1, y2⟩ := obP_cells hx5
      simp only at y0 y1 y2
      have EW := Lib.hid ew5
      clear hb4 hb5 hx5 hb45 ew5 HT3 HB3 HR23 HR3 hp
      go_upto_region 9 with fail
      rw [← EW.out]
      clear EW
      have g0 := cell_belowW y0
      have g1 := cell_belowW y1
      have g2 := cell_belowW y2
      have hmin : min (S.length : Int) (kk : Int) = (F.length : Int) := by have := HFL.out; omega
      have hFS : F.length ≤ S.length := by have := HFL.out; omega
      have CSM : Hid (∀ ad', RdK ePt 3 w5.drew ad' (S.take F.length) → Calls Tryz.prog 38 #[.slice a3 F.length k3, .slice ad' F.length k2] w5.drew fun e w' => e = .returned (.bool true) ∧ Below w5.drew.heap.size w5.drew w') := fun ad' hr => by
        have e5 : Below w5.heap.size w5 w5.drew := (Below.refl _ _).drew
        have c := same14 a3 ad' F (S.take F.length) F.length F.length k3 k2 w5.drew rfl (by rw [List.length_take]; omega) (HF5.out.below e5) hr (by omega) (by omega)
        rwa [show decide (F = S.take F.length) = true by
          rw [decide_eq_true_eq, HFL.out]
          conv => lhs; rw [HF.out]
          rcases Nat.le_total kk S.length with h9 | h9
          · rw [Nat.min_eq_right h9]
          · rw [Nat.min_eq_left h9, List.take_of_length_le h9, List.take_of_length_le (Nat.le_refl _)]] at c
      by_cases hS0 : S.length = 0
      · have hfp' : fp = false := by rw [HFP.out, List.eq_nil_of_length_eq_zero hS0]; rfl
        subst hfp'
        have hS1 : decide ((0 : Int) < (S.length : Int)) = false := by rw [decide_eq_false_iff_not]; omega
        have hS2 : decide (0 < S.length) = false := by rw [decide_eq_false_iff_not]; omega
        clear HFP HP hS0
        refine wp_region_head (fun W => ∃ p : BelowW w5, W = p.W) [32, 33, 34] [(0, false), (1, false), (2, false), (3, false), (4, false), (5, false), (6, false), (7, false), (8, true), (9, false), (10, false), (11, true), (12, false), (13, false), (14, false), (15, false), (16, false), (17, false), (18, false), (19, false), (20, false), (21, false), (22, false), (23, false), (24, false), (25, false), (26, false), (27, false), (28, false), (29, false), (30, false), (31, false)] (by kernel_rfl) (by kernel_rfl) (fun _ _ d _ _ h => by cases d <;> exact h) ⟨⟨_, (Below.refl _ _).drew⟩, rfl⟩ 3 rfl (by kernel_rfl) ?_
        simp only [pickB, List.filterMap_cons, List.filterMap_nil, List.getElem?_toArray, List.getElem?_cons_succ, List.getElem?_cons_zero, Option.map_some]
        iterate 31 (refine wpHd_step (fun K hK => ?_); go_simp; first | (refine hK _ ?_; clear hK K) | (apply Exists.intro; refine ⟨fun _ => ?_, hK _ ?_⟩; rfl; clear hK K))
        refine wpHd_step (fun K hK => ?_)
        refine step_hdSliceG (enc := ePt) elPt10 a2 S k2 0 F.length HCAP.out (Nat.zero_le _) hFS rfl (.tmp 88) none (some (.tmp 90)) rfl rfl rfl rfl ?_
        intro ad' had'
        refine hK _ ?_
        clear hK K
        have c := CSM.out ad' (by have := had' _ (HR5.out.below ((Below.refl _ w5).drew)); rwa [List.drop_zero] at this)
        clear had' CSM
        refine wpHd_nil ?_
        refine wpAnyT_ready [32] (by kernel_rfl) (by simp) ?_
        refine AllReadyT.cons rfl (fun K hK => ?_) AllReadyT.nil
        refine step_callG ent_same14c rfl _ _ rfl (vals := #[.slice a3 F.length k3, .slice ad' F.length k2]) rfl c ?_
        rintro e w7 ⟨rfl, hb7⟩
        refine ⟨_, rfl, hK _ _ (fun _ h => absurd (by simp) h) ?_⟩
        clear hK K c g0 g1 g2 y0 y1 y2
        have hb57 : Below w5.heap.size w5 w7 := ((Below.refl w5.heap.size w5).drew).trans hb7
        clear hb7
        have HB7 := Lib.hid (HB5.out.trans (hb57.mono HB5.out.size))
        have HR7 := Lib.hid (HR5.out.below hb57)
        clear hb57 HB5 HR5 HF5
        refine wpAnyT_line [33, 34] _ _ _ (by kernel_rfl) ?_
        simp only [pick, List.filterMap_cons, List.filterMap_nil, List.getElem?_toArray, List.getElem?_cons_succ, List.getElem?_cons_zero]
        go_wp2
        go_loopw [18, 97] (fun mv iv wr => ∃ j : Nat, iv = .int .i64 j ∧ j ≤ l.length ∧ mv = .int .i64 (((l.take j).filter (inX x1 x2)).length : Nat) ∧ Hid (Below w7.heap.size w7 wr)) (fun _ iv _ => l.length - (intOf iv).toNat)
        case atStart => exact ⟨0, rfl, Nat.zero_le _, rfl, Lib.hid (Below.refl _ _)⟩
        case round =>
          obtain ⟨j, rfl, hj, rfl, HBK⟩ := hrel
          by_cases hjl : j < l.length
          · have hb := HB7.out.trans (HBK.out.mono HB7.out.size)
            obtain ⟨b9, off9, ea, hbl, hcs⟩ := (HR.out.below hb).get (by omega)
            have x0 := hcs j hjl 0 (by omega)
            have x1' := hcs j hjl 1 (by omega)
            have x2' := hcs j hjl 2 (by omega)
            simp only [ePt, List.getElem?_cons_zero, List.getElem?_cons_succ, Nat.add_zero] at x0 x1' x2'
            have hct : ((l.take j).filter (inX x1 x2)).length ≤ 80 := Nat.le_trans (List.length_filter_le _ _) (by rw [List.length_take]; omega)
            have HNXT := Lib.hid (many_take (x1 := x1) (x2 := x2) hjl)
            have EA := Lib.hid ea
            clear hcs ea
            generalize ((l.take j).filter (inX x1 x2)).length = ct at *
            generalize l[j] = p at *
            obtain ⟨px, py, pi⟩ := p
            simp only at x0 x1' x2'
            have hjl2 : (j : Int) < (l.length : Int) := by omega
            obtain rfl := EA.out
            clear EA
            have HB8 : Hid (∀ o, Below w7.heap.size w7 (wr.alloc o)) := fun o => HBK.out.trans (((Below.refl _ wr).alloc (Nat.le_refl _) o).mono HBK.out.size)
            by_cases hin : x1 ≤ px ∧ px ≤ x2
            · have q1 : decide (x1 ≤ px) = true := by simp [hin.1]
              have q2 : decide (px ≤ x2) = true := by simp [hin.2]
              have hn9 : ((l.take (j + 1)).filter (inX x1 x2)).length = ct + 1 := by rw [HNXT.out]; simp [inX, hin]
              have HN9 := Lib.hid hn9
              clear HNXT hin hn9
              go_wp2
              go_roundw
              case rel => exact ⟨j + 1, by go_num, by omega, by rw [HN9.out]; go_num, HB8.out _⟩
              case measure => simp [intOf]; omega
            · have hn9 : ((l.take (j + 1)).filter (inX x1 x2)).length = ct := by rw [HNXT.out]; simp [inX, hin]
              have HN9 := Lib.hid hn9
              by_cases h1 : x1 ≤ px
              · have q1 : decide (x1 ≤ px) = true := by simp [h1]
                have q2 : decide (px ≤ x2) = false := by simp; omega
                clear HNXT hin hn9 h1
                go_wp2
                go_roundw
                case rel => exact ⟨j + 1, by go_num, by omega, by rw [HN9.out], HB8.out _⟩
                case measure => simp [intOf]; omega
              · have q1 : decide (x1 ≤ px) = false := by simp; omega
                clear HNXT hin hn9 h1
                go_wp2
                go_roundw
                case rel => exact ⟨j + 1, by go_num, by omega, by rw [HN9.out], HB8.out _⟩
                case measure => simp [intOf]; omega
          · obtain rfl : j = l.length := by omega
            rw [List.take_length, ← HMN.out] at *
            have HB8 := Lib.hid (HB7.out.trans (HBK.out.mono HB7.out.size))
            have HR8 := Lib.hid (HR7.out.below HBK.out)
            clear HBK HB7 HR7
            obtain ⟨wo, ewo⟩ : ∃ wo : World, wo = wr := ⟨_, rfl⟩
            subst ewo
            go_wp2
            go_loopw [116] (fun iv wr => ∃ j : Nat, iv = .int .i64 j ∧ j ≤ S.length ∧ Hid (Below wo.heap.size wo wr)) (fun iv _ => S.length - (intOf iv).toNat)
            case atStart => exact ⟨0, rfl, Nat.zero_le _, Lib.hid (Below.refl _ _)⟩
            case round =>
              obtain ⟨j, rfl, hj, HBK⟩ := hrel
              by_cases hjl : j < S.length
              · obtain ⟨b9, off9, ea, hbl, hcs⟩ := (HR8.out.below HBK.out).get (by omega)
                have x0 := hcs j hjl 0 (by omega)
                have x1' := hcs j hjl 1 (by omega)
                have x2' := hcs j hjl 2 (by omega)
                simp only [ePt, List.getElem?_cons_zero, List.getElem?_cons_succ, Nat.add_zero] at x0 x1' x2'
                have hjin := HIN.out S[j] (List.getElem_mem hjl)
                have hjl2 : (j : Int) < (S.length : Int) := by omega
                have HB9 : Hid (∀ o n, Below wo.heap.size wo ((wr.alloc o).drewN n)) := fun o n => by
                  have h1 := HBK.out.trans (((Below.refl wr.heap.size wr).alloc (Nat.le_refl _) o).mono HBK.out.size)
                  exact h1.trans ((Below.drewAny _ n).mono h1.size)
                rcases Nat.eq_zero_or_pos j with rfl | hj0
                · have EA := Lib.hid ea
                  clear hcs ea
                  generalize S[0] = p at *
                  obtain ⟨px, py, pi⟩ := p
                  simp only at x0 x1' x2' hjin
                  have q1 : decide (px < x1) = false := by simp; omega
                  have q2 : decide (x2 < px) = false := by simp; omega
                  obtain rfl := EA.out
                  clear EA hjin hj
                  simp only [Nat.zero_mul, Nat.add_zero] at x0 x1' x2'
                  go_upto_region 21 with fail
                  go_quiet (fail)
                  go_wp2
                  go_roundw
                  case rel => exact ⟨1, by go_num, by omega, HB9.out _ _⟩
                  case measure => simp [intOf]; omega
                · obtain ⟨i, rfl⟩ : ∃ i, j = i + 1 := ⟨j - 1, by omega⟩
                  have y0 := hcs i (by omega) 0 (by omega)
                  have y1 := hcs i (by omega) 1 (by omega)
                  have y2 := hcs i (by omega) 2 (by omega)
                  simp only [ePt, List.getElem?_cons_zero, List.getElem?_cons_succ, Nat.add_zero] at y0 y1 y2
                  have hlt := List.pairwise_iff_getElem.1 HSRT.out i (i + 1) (by omega) hjl (by omega)
                  have EA := Lib.hid ea
                  have EM : Hid (∃ q, q = S[i]'(Nat.lt_of_succ_lt hjl)) := ⟨_, rfl⟩
                  obtain ⟨q, hq⟩ := EM.out
                  rw [← hq] at y0 y1 y2 hlt
                  clear hcs ea hq EM
                  generalize S[i + 1] = p at *
                  obtain ⟨px, py, pi⟩ := p
                  obtain ⟨qx, qy, qi⟩ := q
                  simp only at x0 x1' x2' hjin y0 y1 y2
                  have q1 : decide (px < x1) = false := by simp; omega
                  have q2 : decide (x2 < px) = false := by simp; omega
                  unfold ltY at hlt
                  simp only at hlt
                  have d1 : decide (py < qy) = false := by simp; omega
                  have e0 : decide (0 < i + 1) = true := by simp
                  have e1 : ((i : Int) + 1 - 1) = (i : Int) := by omega
                  have e2 : (i : Int) < (S.length : Int) := by omega
                  have e3 : i < S.length := by omega
                  have b0 := hbl
                  obtain rfl := EA.out
                  by_cases h8 : qy = py
                  · have d2 : (qy == py) = true := by simp [h8]
                    have d3 : decide (pi ≤ qi) = false := by simp; omega
                    clear EA hjin hj hlt h8
                    go_upto_region 21 with fail
                    go_quiet (fail)
                    go_wp2
                    go_roundw
                    case rel => exact ⟨i + 1 + 1, by go_num, by omega, HB9.out _ _⟩
                    case measure => simp [intOf]; omega
                  · have d2 : (qy == py) = false := by simp [h8]
                    clear EA hjin hj hlt h8
                    go_upto_region 21 with fail
                    go_quiet (fail)
                    go_wp2
                    go_roundw
                    case rel => exact ⟨i + 1 + 1, by go_num, by omega, HB9.out _ _⟩
                    case measure => simp [intOf]; omega
              · obtain rfl : j = S.length := by omega
                have HBF := Lib.hid (HB8.out.trans (HBK.out.mono HB8.out.size))
                go_wp2_with (go_at_call 31; refine (AW.out _).mono ?_; rintro e w9 ⟨rfl, hb9⟩)
                go_ret
                exact ⟨rfl, HBF.out.trans (hb9.mono HBF.out.size)⟩
      · have hfp' : fp = true := by rw [HFP.out]; cases S with
          | nil => exact absurd rfl hS0
          | cons q S => rfl
        subst hfp'
        have hS1 : decide ((0 : Int) < (S.length : Int)) = true := by simp; omega
        have hS2 : decide (0 < S.length) = true := by simp; omega
        obtain ⟨b3, off3, ea3, hbl3, hcs3⟩ := HR5.out.get (by omega)
        have z0 := hcs3 0 (by omega) 0 (by omega)
        have z1 := hcs3 0 (by omega) 1 (by omega)
        have z2 := hcs3 0 (by omega) 2 (by omega)
        have hhd : (p1, p2, p3) = S[0]'(Nat.pos_of_ne_zero hS0) := by
          rw [HP.out]
          cases S with
          | nil => exact absurd rfl hS0
          | cons q S => rfl
        simp only [ePt, List.getElem?_cons_zero, List.getElem?_cons_succ, Nat.add_zero, Nat.zero_mul] at z0 z1 z2
        rw [← hhd] at z0 z1 z2
        have hSp : (0 : Int) < (S.length : Int) := by omega
        have hSn : 0 < S.length := by omega
        clear HFP HP hcs3 hhd hS0
        subst ea3
        have g3 := cell_belowW z0
        have g4 := cell_belowW z1
        have g5 := cell_belowW z2
        clear z0 z1 z2
        refine wp_region_head (fun W => ∃ p : BelowW w5, W = p.W) [32, 33, 34] [(0, false), (1, false), (2, false), (3, false), (4, false), (5, false), (6, false), (7, false), (8, true), (9, false), (10, false), (11, true), (12, false), (13, false), (14, false), (15, false), (16, false), (17, false), (18, false), (19, false), (20, false), (21, false), (22, false), (23, false), (24, false), (25, false), (26, false), (27, false), (28, false), (29, false), (30, false), (31, false)] (by kernel_rfl) (by kernel_rfl) (fun _ _ d _ _ h => by cases d <;> exact h) ⟨⟨_, (Below.refl _ _).drew⟩, rfl⟩ 3 rfl (by kernel_rfl) ?_
        simp only [pickB, List.filterMap_cons, List.filterMap_nil, List.getElem?_toArray, List.getElem?_cons_succ, List.getElem?_cons_zero, Option.map_some]
        iterate 31 (refine wpHd_step (fun K hK => ?_); go_simp; first | (refine hK _ ?_; clear hK K) | (apply Exists.intro; refine ⟨fun _ => ?_, hK _ ?_⟩; rfl; clear hK K))
        refine wpHd_step (fun K hK => ?_)
        refine step_hdSliceG (enc := ePt) elPt10 (some ⟨b3, off3, none⟩) S k2 0 F.length HCAP.out (Nat.zero_le _) hFS rfl (.tmp 88) none (some (.tmp 90)) rfl rfl rfl rfl ?_
        intro ad' had'
        refine hK _ ?_
        clear hK K
        have c := CSM.out ad' (by have := had' _ (HR5.out.below ((Below.refl _ w5).drew)); rwa [List.drop_zero] at this)
        clear had' CSM
        refine wpHd_nil ?_
        refine wpAnyT_ready [32] (by kernel_rfl) (by simp) ?_
        refine AllReadyT.cons rfl (fun K hK => ?_) AllReadyT.nil
        refine step_callG ent_same14c rfl _ _ rfl (vals := #[.slice a3 F.length k3, .slice ad' F.length k2]) rfl c ?_
        rintro e w7 ⟨rfl, hb7⟩
        refine ⟨_, rfl, hK _ _ (fun _ h => absurd (by simp) h) ?_⟩
        clear hK K c g0 g1 g2 g3 g4 g5 y0 y1 y2
        have hb57 : Below w5.heap.size w5 w7 := ((Below.refl w5.heap.size w5).drew).trans hb7
        clear hb7
        have HB7 := Lib.hid (HB5.out.trans (hb57.mono HB5.out.size))
        have HR7 := Lib.hid (HR5.out.below hb57)
        clear hb57 HB5 HR5 HF5
        refine wpAnyT_line [33, 34] _ _ _ (by kernel_rfl) ?_
        simp only [pick, List.filterMap_cons, List.filterMap_nil, List.getElem?_toArray, List.getElem?_cons_succ, List.getElem?_cons_zero]
        go_wp2
        go_loopw [18, 97] (fun mv iv wr => ∃ j : Nat, iv = .int .i64 j ∧ j ≤ l.length ∧ mv = .int .i64 (((l.take j).filter (inX x1 x2)).length : Nat) ∧ Hid (Below w7.heap.size w7 wr)) (fun _ iv _ => l.length - (intOf iv).toNat)
        case atStart => exact ⟨0, rfl, Nat.zero_le _, rfl, Lib.hid (Below.refl _ _)⟩
        case round =>
          obtain ⟨j, rfl, hj, rfl, HBK⟩ := hrel
          by_cases hjl : j < l.length
          · have hb := HB7.out.trans (HBK.out.mono HB7.out.size)
            obtain ⟨b9, off9, ea, hbl, hcs⟩ := (HR.out.below hb).get (by omega)
            have x0 := hcs j hjl 0 (by omega)
            have x1' := hcs j hjl 1 (by omega)
            have x2' := hcs j hjl 2 (by omega)
            simp only [ePt, List.getElem?_cons_zero, List.getElem?_cons_succ, Nat.add_zero] at x0 x1' x2'
            have hct : ((l.take j).filter (inX x1 x2)).length ≤ 80 := Nat.le_trans (List.length_filter_le _ _) (by rw [List.length_take]; omega)
            have HNXT := Lib.hid (many_take (x1 := x1) (x2 := x2) hjl)
            have EA := Lib.hid ea
            clear hcs ea
            generalize ((l.take j).filter (inX x1 x2)).length = ct at *
            generalize l[j] = p at *
            obtain ⟨px, py, pi⟩ := p
            simp only at x0 x1' x2'
            have hjl2 : (j : Int) < (l.length : Int) := by omega
            obtain rfl := EA.out
            clear EA
            have HB8 : Hid (∀ o, Below w7.heap.size w7 (wr.alloc o)) := fun o => HBK.out.trans (((Below.refl _ wr).alloc (Nat.le_refl _) o).mono HBK.out.size)
            by_cases hin : x1 ≤ px ∧ px ≤ x2
            · have q1 : decide (x1 ≤ px) = true := by simp [hin.1]
              have q2 : decide (px ≤ x2) = true := by simp [hin.2]
              have hn9 : ((l.take (j + 1)).filter (inX x1 x2)).length = ct + 1 := by rw [HNXT.out]; simp [inX, hin]
              have HN9 := Lib.hid hn9
              clear HNXT hin hn9
              go_wp2
              go_roundw
              case rel => exact ⟨j + 1, by go_num, by omega, by rw [HN9.out]; go_num, HB8.out _⟩
              case measure => simp [intOf]; omega
            · have hn9 : ((l.take (j + 1)).filter (inX x1 x2)).length = ct := by rw [HNXT.out]; simp [inX, hin]
              have HN9 := Lib.hid hn9
              by_cases h1 : x1 ≤ px
              · have q1 : decide (x1 ≤ px) = true := by simp [h1]
                have q2 : decide (px ≤ x2) = false := by simp; omega
                clear HNXT hin hn9 h1
                go_wp2
                go_roundw
                case rel => exact ⟨j + 1, by go_num, by omega, by rw [HN9.out], HB8.out _⟩
                case measure => simp [intOf]; omega
              · have q1 : decide (x1 ≤ px) = false := by simp; omega
                clear HNXT hin hn9 h1
                go_wp2
                go_roundw
                case rel => exact ⟨j + 1, by go_num, by omega, by rw [HN9.out], HB8.out _⟩
                case measure => simp [intOf]; omega
          · obtain rfl : j = l.length := by omega
            rw [List.take_length, ← HMN.out] at *
            have HB8 := Lib.hid (HB7.out.trans (HBK.out.mono HB7.out.size))
            have HR8 := Lib.hid (HR7.out.below HBK.out)
            clear HBK HB7 HR7
            obtain ⟨wo, ewo⟩ : ∃ wo : World, wo = wr := ⟨_, rfl⟩
            subst ewo
            go_wp2
            go_loopw [116] (fun iv wr => ∃ j : Nat, iv = .int .i64 j ∧ j ≤ S.length ∧ Hid (Below wo.heap.size wo wr)) (fun iv _ => S.length - (intOf iv).toNat)
            case atStart => exact ⟨0, rfl, Nat.zero_le _, Lib.hid (Below.refl _ _)⟩
            case round =>
              obtain ⟨j, rfl, hj, HBK⟩ := hrel
              by_cases hjl : j < S.length
              · obtain ⟨b9, off9, ea, hbl, hcs⟩ := (HR8.out.below HBK.out).get (by omega)
                have x0 := hcs j hjl 0 (by omega)
                have x1' := hcs j hjl 1 (by omega)
                have x2' := hcs j hjl 2 (by omega)
                simp only [ePt, List.getElem?_cons_zero, List.getElem?_cons_succ, Nat.add_zero] at x0 x1' x2'
                have hjin := HIN.out S[j] (List.getElem_mem hjl)
                have hjl2 : (j : Int) < (S.length : Int) := by omega
                have HB9 : Hid (∀ o n, Below wo.heap.size wo ((wr.alloc o).drewN n)) := fun o n => by
                  have h1 := HBK.out.trans (((Below.refl wr.heap.size wr).alloc (Nat.le_refl _) o).mono HBK.out.size)
                  exact h1.trans ((Below.drewAny _ n).mono h1.size)
                rcases Nat.eq_zero_or_pos j with rfl | hj0
                · have EA := Lib.hid ea
                  clear hcs ea
                  generalize S[0] = p at *
                  obtain ⟨px, py, pi⟩ := p
                  simp only at x0 x1' x2' hjin
                  have q1 : decide (px < x1) = false := by simp; omega
                  have q2 : decide (x2 < px) = false := by simp; omega
                  obtain ⟨rfl, rfl⟩ : b3 = b9 ∧ off3 = off9 := by simpa using EA.out
                  clear EA hjin hj
                  simp only [Nat.zero_mul, Nat.add_zero] at x0 x1' x2'
                  go_upto_region 21 with fail
                  go_quiet (fail)
                  go_wp2
                  go_roundw
                  case rel => exact ⟨1, by go_num, by omega, HB9.out _ _⟩
                  case measure => simp [intOf]; omega
                · obtain ⟨i, rfl⟩ : ∃ i, j = i + 1 := ⟨j - 1, by omega⟩
                  have y0 := hcs i (by omega) 0 (by omega)
                  have y1 := hcs i (by omega) 1 (by omega)
                  have y2 := hcs i (by omega) 2 (by omega)
                  simp only [ePt, List.getElem?_cons_zero, List.getElem?_cons_succ, Nat.add_zero] at y0 y1 y2
                  have hlt := List.pairwise_iff_getElem.1 HSRT.out i (i + 1) (by omega) hjl (by omega)
                  have EA := Lib.hid ea
                  have EM : Hid (∃ q, q = S[i]'(Nat.lt_of_succ_lt hjl)) := ⟨_, rfl⟩
                  obtain ⟨q, hq⟩ := EM.out
                  rw [← hq] at y0 y1 y2 hlt
                  clear hcs ea hq EM
                  generalize S[i + 1] = p at *
                  obtain ⟨px, py, pi⟩ := p
                  obtain ⟨qx, qy, qi⟩ := q
                  simp only at x0 x1' x2' hjin y0 y1 y2
                  have q1 : decide (px < x1) = false := by simp; omega
                  have q2 : decide (x2 < px) = false := by simp; omega
                  unfold ltY at hlt
                  simp only at hlt
                  have d1 : decide (py < qy) = false := by simp; omega
                  have e0 : decide (0 < i + 1) = true := by simp
                  have e1 : ((i : Int) + 1 - 1) = (i : Int) := by omega
                  have e2 : (i : Int) < (S.length : Int) := by omega
                  have e3 : i < S.length := by omega
                  have b0 := hbl
                  obtain ⟨rfl, rfl⟩ : b3 = b9 ∧ off3 = off9 := by simpa using EA.out
                  by_cases h8 : qy = py
                  · have d2 : (qy == py) = true := by simp [h8]
                    have d3 : decide (pi ≤ qi) = false := by simp; omega
                    clear EA hjin hj hlt h8
                    go_upto_region 21 with fail
                    go_quiet (fail)
                    go_wp2
                    go_roundw
                    case rel => exact ⟨i + 1 + 1, by go_num, by omega, HB9.out _ _⟩
                    case measure => simp [intOf]; omega
                  · have d2 : (qy == py) = false := by simp [h8]
                    clear EA hjin hj hlt h8
                    go_upto_region 21 with fail
                    go_quiet (fail)
                    go_wp2
                    go_roundw
                    case rel => exact ⟨i + 1 + 1, by go_num, by omega, HB9.out _ _⟩
                    case measure => simp [intOf]; omega
              · obtain rfl : j = S.length := by omega
                have HBF := Lib.hid (HB8.out.trans (HBK.out.mono HB8.out.size))
                go_wp2_with (go_at_call 31; refine (AW.out _).mono ?_; rintro e w9 ⟨rfl, hb9⟩)
                go_ret
                exact ⟨rfl, HBF.out.trans (hb9.mono HBF.out.size)⟩
    · have cb1 := Lib.hid (low_build_bad a c l w h (by omega) hw hu)
      clear h hw hu
      go_enter Tryz.func11, Tryz.ntmps11
      go_wp2_with (first
        | (go_at_call 32; refine cb1.out.mono ?_; rintro e w2 ⟨rfl, hb2⟩)
        | (go_at_call 31; refine (AW.out _).mono ?_; rintro e w4 ⟨rfl, hb4⟩))
      go_ret
      exact ⟨rfl, hb2.trans (hb4.mono hb2.size)⟩
  · have dl : decide (80 < (l.length : Int)) = true := by simp; omega
    clear h hw hf hkw
    go_enter Tryz.func11, Tryz.ntmps11
    go_wp2_with (go_at_call 31; refine (AW.out _).mono ?_; rintro e w3 ⟨rfl, hb3⟩)
    go_ret
    exact ⟨rfl, hb3⟩
end Go.Proofs.YtggfdlanobndjaaGreat
