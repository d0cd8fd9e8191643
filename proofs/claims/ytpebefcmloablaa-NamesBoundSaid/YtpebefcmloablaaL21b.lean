/- The law NamesBound. -/
import Derived.Test.YtpebefcmloablaaL21g
import Derived.Test.YtpebefcmloablaaLog
namespace Go.Proofs.Ytpebefcmloablaa
open Go.RowKit Go.Maps
set_option linter.unusedSimpArgs false
set_option linter.unusedVariables false

theorem rdk_of_rd {α : Type} {enc : α → Value} {w : World} {a : Option Addr} {l : List α} (h : Rd enc w a l) : RdK (fun x => [enc x]) 1 w a l := by
  rcases h with h | ⟨b, off, rfl, hb, hc⟩
  · exact .inl h
  · refine .inr ⟨b, off, rfl, hb, fun i hi j hj => ?_⟩
    obtain rfl : j = 0 := by omega
    simp [hc i hi]
theorem rd_of_rdk {α : Type} {enc : α → Value} {w : World} {a : Option Addr} {l : List α} (h : RdK (fun x => [enc x]) 1 w a l) : Rd enc w a l := by
  rcases h with h | ⟨b, off, rfl, hb, hc⟩
  · exact .inl h
  · refine .inr ⟨b, off, rfl, hb, fun i hi => ?_⟩
    simpa using hc i hi 0 (by omega)

theorem owns_lit1 (W : World) (v : Value) (e : TypeId) : (W.alloc (.cells #[v] e)).ownsRow W.heap.size e 1 (.slice (some ⟨W.heap.size, 0, none⟩) 1 1) 1 [v] :=
  ⟨rfl, .inr ⟨W.heap.size, 1, #[v], rfl, Nat.le_refl _, lit0 _ _, Nat.le_refl _, by unfold maxLen; omega, rfl, rfl⟩⟩

/-- rank.Log of twice the names and two -/
theorem log_two (n : Nat) (w : World) (hn : n ≤ 5000) : Calls Try.prog 27 #[.int .i64 (2 * (n : Int) + 2)] w fun e w' => e = .returned (.int .i64 (Lib.bitLen (2 * n + 1))) ∧ Below w.heap.size w w' := by
  have h := rLog (2 * (n : Int) + 2) w (by omega)
  rw [show (2 * (n : Int) + 2) = (((2 * n + 1 : Nat) : Int) + 1) by omega, rkLog_succ _ (by omega)] at h
  rw [show (2 * (n : Int) + 2) = (((2 * n + 1 : Nat) : Int) + 1) by omega]
  exact h

set_option maxRecDepth 100000 in
set_option maxHeartbeats 16000000 in
theorem wNamesBound (a : Option Addr) (ops : List Op21) (n c : Nat) (a2 : Option Addr) (look : List Int) (n2 c2 : Nat) (W : World) (e0 : ops.length = n) (r0 : RdK eOp 3 W a ops) (m0 : n ≤ c ∧ c ≤ maxLen) (f0 : ∀ x ∈ ops, (Lit.int .u8 x.1).wf = true ∧ (Lit.int .u32 x.2.1).wf = true ∧ (Lit.int .i64 x.2.2).wf = true) (e1 : look.length = n2) (r1 : Rd (.int .u32) W a2 look) (m1 : n2 ≤ c2 ∧ c2 ≤ maxLen) :
    Calls Try.prog 13 #[.slice a n c, .slice a2 n2 c2] W fun e w' => e = .returned (.bool true) ∧ Below W.heap.size W w' := by
  subst e0
  subst e1
  have hc : ops.length ≤ c := m0.1
  have hc2 : ops.length ≤ 9223372036854775807 := by have := m0.2; unfold maxLen at this; omega
  have hcl : look.length ≤ c2 := m1.1
  have hcl2 : look.length ≤ 9223372036854775807 := by have := m1.2; unfold maxLen at this; omega
  have HF := Lib.hid f0
  have HRD := Lib.hid r0
  have HLD := Lib.hid (rdk_of_rd r1)
  obtain ⟨B, hB⟩ : ∃ B, B = W.heap.size := ⟨_, rfl⟩
  have C1 : Hid (Calls Try.prog 28 #[] W fun e w' => e = .returned (.pointer (some ⟨B + 1, 0, none⟩)) ∧ Own w' B (B + 1) 0 [] ∧ Below B W w') := by rw [hB]; exact oNew W
  have HBW := Lib.hid hB
  have hBW : B ≤ W.heap.size := Nat.le_of_eq hB
  rw [← hB]
  clear m0 f0 r0 hB r1 m1
  go_enter Try.func13, Try.ntmps13
  go_wp2_with fail
  refine C1.out.mono ?_
  rintro e w1 ⟨rfl, o, hb⟩
  have O1 := Lib.hid o
  have HB1 := Lib.hid hb
  have h1 := hb.size
  clear o hb C1
  obtain ⟨m, hm, hm1, hm2⟩ : ∃ m : Nat, min (ops.length : Int) 250 = (m : Int) ∧ m ≤ ops.length ∧ m ≤ 250 := ⟨min ops.length 250, by omega, by omega, by omega⟩
  obtain ⟨q, hq, hq1, hq2⟩ : ∃ q : Nat, min (look.length : Int) 4 = (q : Int) ∧ q ≤ look.length ∧ q ≤ 4 := ⟨min look.length 4, by omega, by omega, by omega⟩
  go_wp2_with (first
    | (refine wp_sliceKA (enc := fun x : Int => [Value.int .u32 x]) (sz := 1) elU32 (HLD.out.below HB1.out (by rw [HBW.out]; exact Nat.le_refl _)) hcl 0 q (Nat.zero_le _) hq1 rfl (.tmp 16) _ _ rfl rfl rfl rfl ?_; intro ad2 hr2; simp only [Nat.sub_zero, List.drop_zero] at hr2 ⊢)
    | (refine wp_sliceKA elOp (HRD.out.below HB1.out (by rw [HBW.out]; exact Nat.le_refl _)) hc 0 m (Nat.zero_le _) hm1 rfl (.tmp 21) _ _ rfl rfl rfl rfl ?_; intro ad hr; simp only [Nat.sub_zero, List.drop_zero] at hr ⊢))
  have HLR : Hid (∀ W', Below B W W' → Rd (.int .u32) W' ad2 (look.take q)) := fun W' hb => rd_of_rdk (hr2 W' (HLD.out.below hb (by rw [HBW.out]; exact Nat.le_refl _)))
  have hQl : (look.take q).length = q := by simp; omega
  clear hr2 hq
  generalize look.take q = LK at *
  subst hQl
  have hPl : (ops.take m).length = m := by simp; omega
  have HPR : Hid (∀ W', Below B W W' → RdK eOp 3 W' ad (ops.take m)) := fun W' hb => hr W' (HRD.out.below hb (by rw [HBW.out]; exact Nat.le_refl _))
  have HFP : Hid (∀ x ∈ ops.take m, 0 ≤ x.1 ∧ x.1 ≤ 255) := fun x hx => wf_u8 (HF.out x (List.mem_of_mem_take hx)).1
  clear hr hm HF
  generalize ops.take m = P at *
  subst hPl
  go_loopw [27] (fun kv wr => ∃ k : Nat, kv = .int .i64 k ∧ k ≤ P.length ∧ Hid (∃ D, Own wr B (B + 1) k D) ∧ Below B W wr) (fun kv _ => P.length - (intOf kv).toNat)
  case atStart => exact ⟨0, rfl, Nat.zero_le _, ⟨_, O1.out⟩, HB1.out⟩
  case round =>
    obtain ⟨k, rfl, hk, HO, hb⟩ := hrel
    obtain ⟨D, O⟩ := HO.out
    have HD := Lib.hid O
    have hsz := hb.size
    have hBr : B ≤ wr.heap.size := Nat.le_trans hBW hsz
    clear HO O
    by_cases hkl : k < P.length
    · obtain ⟨b, off, ea, hbl, hcs⟩ := (HPR.out wr hb).get (by omega)
      have x0 := hcs k hkl 0 (by omega)
      have x1 := hcs k hkl 1 (by omega)
      have x2 := hcs k hkl 2 (by omega)
      simp only [eOp, List.getElem?_cons_zero, List.getElem?_cons_succ, Nat.add_zero] at x0 x1 x2
      obtain ⟨hd0, hd1⟩ := HFP.out P[k] (List.getElem_mem hkl)
      have EA := Lib.hid ea
      clear hcs ea
      generalize P[k] = r at *
      obtain ⟨d, oi, op⟩ := r
      simp only at x0 x1 x2 hd0 hd1
      have hkl2 : (k : Int) < (P.length : Int) := by omega
      obtain rfl := EA.out
      clear EA
      obtain ⟨y0, y1, y2⟩ := objOp_cells wr d oi op
      have HB2 : Hid (Below B W (wr.alloc (.cells #[.int .u8 d, .int .u32 oi, .int .i64 op] 51))) := Lib.hid (hb.alloc hBr _)
      have OA := Lib.hid (HD.out.below ((Below.refl _ _).alloc (Nat.le_refl _) (.cells #[.int .u8 d, .int .u32 oi, .int .i64 op] 51)))
      have hBa : B ≤ (wr.alloc (.cells #[.int .u8 d, .int .u32 oi, .int .i64 op] 51)).heap.size := by simp; omega
      have HBX := Lib.hid hb
      clear hb
      go_upto_block 2 with fail
      go_cut [] from 34 to 47 (fun wx => Hid (∃ D, Own wx B (B + 1) (k + 1) D) ∧ Hid (Below B W wx) ∧ Hid (wx.cell? ⟨wr.heap.size, 1, none⟩ = some (.int .u32 oi)))
      case first =>
        have HOB : Hid ((wr.alloc (.cells #[.int .u8 d, .int .u32 oi, .int .i64 op] 51)).heap[wr.heap.size]? = some (.cells #[.int .u8 d, .int .u32 oi, .int .i64 op] 51)) := lit0 _ _
        have HKC : Hid (∀ w2, KeepB (wr.alloc (.cells #[.int .u8 d, .int .u32 oi, .int .i64 op] 51)) w2 → w2.cell? ⟨wr.heap.size, 1, none⟩ = some (.int .u32 oi)) := fun w2 hk => by
          have h9 := hk _ _ _ _ HOB.out (by decide)
          rw [World.cell?_of_block (a := ⟨wr.heap.size, 1, none⟩) h9]
          exact y1
        by_cases h0 : ¬ d % 3 = 0
        · have t0 : (d % 3 == 0) = false := by simp [h0]
          clear h0
          by_cases h2 : d % 3 = 2
          · have t2 : (d % 3 == 2) = true := by simp [h2]
            clear h2
            go_wp2_with fail
            refine (oDrop OA.out hBa oi).mono ?_
            rintro e w2 ⟨⟨kk, bb, rfl⟩, o2, hb2, hkp⟩
            have O2 := Lib.hid o2
            have HB3 := Lib.hid (HB2.out.trans hb2)
            have HKP := Lib.hid (HKC.out w2 hkp)
            clear o2 hb2 hkp
            go_wp2_with fail
            go_meet
            exact ⟨⟨_, O2.out.more (by omega)⟩, HB3, HKP⟩
          · have t2 : (d % 3 == 2) = false := by simp [h2]
            clear h2
            have HKP := Lib.hid y1
            go_wp2_with fail
            go_meet
            exact ⟨⟨_, OA.out.more (by omega)⟩, HB2, HKP⟩
        · have h0' : d % 3 = 0 := by omega
          have t0 : (d % 3 == 0) = true := by simp [h0']
          clear h0 h0'
          go_wp2_with fail
          refine (oPut OA.out hBa (by omega) oi op).mono ?_
          rintro e w2 ⟨⟨kk, rfl⟩, ⟨D2, o2⟩, hb2, hkp⟩
          have O2 := Lib.hid o2
          have HB3 := Lib.hid (HB2.out.trans hb2)
          have HKP := Lib.hid (HKC.out w2 hkp)
          clear o2 hb2 hkp
          go_wp2_with fail
          go_meet
          exact ⟨⟨_, O2.out⟩, HB3, HKP⟩
      case rest =>
        obtain ⟨HO3, HB3, HK3⟩ := hcut
        obtain ⟨w3, ew3⟩ : ∃ w3 : World, w3 = wc := ⟨_, rfl⟩
        subst ew3
        obtain ⟨D3, o3⟩ := HO3.out
        have O3 := Lib.hid o3
        have hDl := o3.len
        have hw3 : B ≤ w3.heap.size := Nat.le_trans hBW HB3.out.size
        have hkk : k < 250 := by omega
        obtain ⟨nn, hnn⟩ : ∃ nn, nn = D3.length := ⟨_, rfl⟩
        have hn250 : nn ≤ 250 := by omega
        have HNN := Lib.hid hnn
        have CL := dLen o3
        rw [← hnn] at CL
        have HCL := Lib.hid CL
        have hwr3 : wr.heap.size < w3.heap.size := World.block_lt_of_cell? w3 _ HK3.out
        clear HO3 o3 hnn hDl CL x0 x1 x2 y0 y1 y2 HB2 OA HD hBa
        go_wp2_with fail
        refine HCL.out.mono ?_
        rintro e w4 ⟨rfl, hb4⟩
        have HB4 := Lib.hid (HB3.out.trans (hb4.mono hw3))
        have O4 := Lib.hid (O3.out.below hb4)
        have HK4 := Lib.hid ((hb4.cell (p := ⟨wr.heap.size, 1, none⟩) hwr3).trans HK3.out)
        have hw4 : B ≤ w4.heap.size := Nat.le_trans hw3 hb4.size
        have hwr4 : wr.heap.size < w4.heap.size := Nat.lt_of_lt_of_le hwr3 hb4.size
        clear hb4 HCL HB3 HK3 O3
        have CG := Lib.hid (log_two nn w4 (by omega))
        go_wp2_with fail
        refine CG.out.mono ?_
        rintro e w5 ⟨rfl, hb5⟩
        have HB5 := Lib.hid (HB4.out.trans (hb5.mono hw4))
        have O5 := Lib.hid (O4.out.below hb5)
        have HK5 := Lib.hid ((hb5.cell (p := ⟨wr.heap.size, 1, none⟩) hwr4).trans HK4.out)
        have hw5 : B ≤ w5.heap.size := Nat.le_trans hw4 hb5.size
        have hwr5 : wr.heap.size < w5.heap.size := Nat.lt_of_lt_of_le hwr4 hb5.size
        clear hb5 CG HB4 HK4 O4
        obtain ⟨lg, hlg⟩ : ∃ lg, lg = Lib.bitLen (2 * nn + 1) := ⟨_, rfl⟩
        have hlg9 : lg ≤ 9 := by
          rw [hlg]
          exact Lib.bitLen_le _ 9 (by decide) (by omega)
        rw [← hlg]
        have HLG := Lib.hid hlg
        clear hlg
        obtain ⟨N1, hN1, hN2, CS⟩ := dStored O5.out
        rw [← HNN.out] at hN1 hN2
        have HCS := Lib.hid CS
        have d1 : decide ((nn : Int) < 0) = false := by simp
        have d2 : decide (N1 < nn) = false := by simp; omega
        clear CS
        go_wp2_with fail
        refine HCS.out.mono ?_
        rintro e w6 ⟨rfl, hb6⟩
        have HB6 := Lib.hid (HB5.out.trans (hb6.mono hw5))
        have O6 := Lib.hid (O5.out.below hb6)
        have HK6 := Lib.hid ((hb6.cell (p := ⟨wr.heap.size, 1, none⟩) hwr5).trans HK5.out)
        have hw6 : B ≤ w6.heap.size := Nat.le_trans hw5 hb6.size
        have hwr6 : wr.heap.size < w6.heap.size := Nat.lt_of_lt_of_le hwr5 hb6.size
        clear hb6 HCS HB5 HK5 O5
        obtain ⟨N3, hN3, hN4, CS⟩ := dStored O6.out
        rw [← HNN.out] at hN3 hN4
        have HCS := Lib.hid CS
        have d3 : decide (2 * (nn : Int) < (N3 : Int)) = false := by simp; omega
        clear CS
        go_wp2_with fail
        refine HCS.out.mono ?_
        rintro e w7 ⟨rfl, hb7⟩
        have HB7 := Lib.hid (HB6.out.trans (hb7.mono hw6))
        have O7 := Lib.hid (O6.out.below hb7)
        have k7 := (hb7.cell (p := ⟨wr.heap.size, 1, none⟩) hwr6).trans HK6.out
        have hw7 : B ≤ w7.heap.size := Nat.le_trans hw6 hb7.size
        have hwr7 : wr.heap.size < w7.heap.size := Nat.lt_of_lt_of_le hwr6 hb7.size
        clear hb7 HCS HB6 HK6 O6
        have HLT := Lib.hid (owns_lit1 w7 (.int .u32 oi) 31)
        have HLQ := Lib.hid (HLR.out _ (HB7.out.alloc hw7 (.cells #[.int .u32 oi] 31)))
        go_wp2_with (at_builtin; refine wp_appendL elU32 (fun _ => rfl) w7.heap.size HLT.out HLQ.out rfl _ _ rfl rfl _ rfl (by unfold maxLen; omega) (by omega) (by simp) ?_; intro v' w8 hown' hg; obtain ⟨av, cp, rfl, -, -, hrd⟩ := Rd.of_owns (enc := Value.int .u32) (l := oi :: LK) hown')
        have hb78 : Below w7.heap.size w7 w8 := below_grown ((Below.refl _ _).alloc (Nat.le_refl _) _) HLT.out hg (by simp) (Nat.le_refl _)
        have O8 := Lib.hid (O7.out.below hb78)
        have HB8 := Lib.hid (HB7.out.trans (hb78.mono hw7))
        have hw8 : B ≤ w8.heap.size := Nat.le_trans hw7 hb78.size
        have HRL := Lib.hid hrd
        obtain ⟨wo, ewo⟩ : ∃ wo : World, wo = wr := ⟨_, rfl⟩
        subst ewo
        have hsq : (lg + 1) * (lg + 1) ≤ 100 := Nat.mul_le_mul (show lg + 1 ≤ 10 by omega) (show lg + 1 ≤ 10 by omega)
        have hsq1 : ((lg : Int) + 1) * ((lg : Int) + 1) = (((lg + 1) * (lg + 1) : Nat) : Int) := by rw [Int.natCast_mul, Int.natCast_add]; rfl
        have hsq2 : 0 ≤ ((lg : Int) + 1) * ((lg : Int) + 1) := by rw [hsq1]; exact Int.natCast_nonneg _
        have hsq3 : ((lg : Int) + 1) * ((lg : Int) + 1) ≤ 100 := by rw [hsq1]; omega
        have HSQ := Lib.hid hsq1
        have HLL : Hid ((oi :: LK).length = LK.length + 1) := Lib.hid (by simp)
        clear hown' hg hb78 hrd HLT HLQ hsq hsq1 k7
        generalize oi :: LK = LL at *
        go_loopw [76] (fun kv wr => ∃ j : Nat, kv = .int .i64 j ∧ j ≤ LK.length + 1 ∧ Below w8.heap.size w8 wr) (fun kv _ => LK.length + 1 - (intOf kv).toNat)
        case atStart => exact ⟨0, rfl, Nat.zero_le _, Below.refl _ _⟩
        case round =>
          obtain ⟨j, rfl, hj, hb⟩ := hrel
          by_cases hjl : j < LK.length + 1
          · have hj9 : j < LL.length := by rw [HLL.out]; exact hjl
            obtain ⟨b1, o1, ea1, hbl1, hc1⟩ := (HRL.out.below hb).get (by omega)
            have z1 := hc1 j hj9
            have EA1 := Lib.hid ea1
            clear hc1 ea1
            generalize LL[j] = x at *
            obtain rfl := EA1.out
            clear EA1
            have hjl2 : (j : Int) < (LK.length : Int) + 1 := by omega
            have hjn : (j : Int) < ((LK.length + 1 : Nat) : Int) := by omega
            have CF := Lib.hid (dFind (O8.out.below hb) x)
            have hbs := hb.size
            have HBR := Lib.hid hb
            clear hb
            go_wp2_with fail
            refine CF.out.mono ?_
            rintro e w9 ⟨t, ht, hkk9, hb9⟩
            rw [← HNN.out, ← HLG.out] at ht
            have HB9 := Lib.hid (HBR.out.trans (hb9.mono hbs))
            have hq : (t : Int) ≤ ((lg : Int) + 1) * ((lg : Int) + 1) := by rw [HSQ.out]; exact Int.ofNat_le.2 ht
            have dq : decide (((lg : Int) + 1) * ((lg : Int) + 1) < (t : Int)) = false := by simp only [decide_eq_false_iff_not]; omega
            have dt : decide ((t : Int) < 0) = false := by simp
            clear ht hb9 CF hq
            rcases hkk9 with ⟨p, -, rfl⟩ | ⟨-, rfl⟩
            all_goals
              go_wp2
              go_roundw
              case rel => exact ⟨j + 1, by go_num, by omega, HB9.out⟩
              case measure => simp [intOf]; omega
          · obtain rfl : j = LK.length + 1 := by omega
            have OF := Lib.hid (O8.out.below hb)
            have HBF := Lib.hid (HB8.out.trans (hb.mono hw8))
            clear hb
            go_wp2
            go_roundw
            case rel => exact ⟨k + 1, by go_num, by omega, ⟨_, OF.out⟩, HBF.out⟩
            case measure => simp [intOf]; omega
    · have HB0 := Lib.hid hb
      have hge : ¬ (k : Int) < (P.length : Int) := by omega
      clear hb HD
      go_wp2_with fail
      refine (awake21 wr).mono ?_
      rintro e w2 ⟨rfl, hb2⟩
      have HBF := Lib.hid (HB0.out.trans (hb2.mono hBr))
      clear hb2
      go_wp2
      go_ret
      exact ⟨rfl, HBF.out⟩

end Go.Proofs.Ytpebefcmloablaa
