/- The laws StairMerges and StairThree, walked. -/
import Derived.Test.YtpebefcmloablaaSkL
import Derived.Test.YtpebefcmloablaaL15w
namespace Go.Proofs.Ytpebefcmloablaa
open Go.RowKit Go.Maps
attribute [local irreducible] wpQuiet
set_option linter.unusedSimpArgs false
set_option linter.unusedVariables false

set_option maxRecDepth 100000 in
set_option maxHeartbeats 4000000 in
theorem wStairMerges (a : Option Addr) (l : List Pt) (n c : Nat) (k8 : Int) (w : World) (hn : l.length = n) (h : RdK ePt 3 w a l) (hnc : n ≤ c ∧ c ≤ maxLen) (hw : wfI l) (hk8 : (Lit.int .u8 k8).wf = true) :
    Calls Try.prog 5 #[.slice a n c, .int .u8 k8] w fun e w' => e = .returned (.bool true) ∧ Below w.heap.size w w' := by
  subst hn
  have AW := Lib.hid awake15
  obtain ⟨hnc, hcm⟩ := hnc
  unfold maxLen at hcm
  have H := Lib.hid h
  have HW := Lib.hid hw
  clear h hw
  by_cases h100 : 100 < l.length
  · go_enter Try.func5, Try.ntmps5
    go_wp2_with fail
    refine (AW.out w).mono ?_
    rintro e w1 ⟨rfl, hb⟩
    go_wp2_with fail
    go_ret
    exact ⟨rfl, hb⟩
  · have C1 := Lib.hid (unlike15 a l l.length c w rfl H.out (by omega))
    rcases Bool.eq_false_or_eq_true (unl l) with hu | hu
    rotate_left
    · rw [hu] at C1
      clear hu H HW
      go_enter Try.func5, Try.ntmps5
      go_wp2_with fail
      refine C1.out.mono ?_
      rintro e w1 ⟨rfl, hb⟩
      go_wp2_with fail
      refine (AW.out w1).mono ?_
      rintro e w2 ⟨rfl, hb2⟩
      go_wp2_with fail
      go_ret
      exact ⟨rfl, hb.trans (hb2.mono hb.size)⟩
    · rw [hu] at C1
      have HU := Lib.hid hu
      clear hu
      have hk0 : 0 ≤ k8 ∧ k8 ≤ 255 := by
        have h1 : IntKind.u8.min ≤ k8 ∧ k8 ≤ IntKind.u8.max := by simpa [Lit.wf] using hk8
        have e1 : IntKind.u8.min = 0 := by decide
        have e2 : IntKind.u8.max = 255 := by decide
        omega
      have hlen : l.length ≤ 100 := by omega
      obtain ⟨k, hk, hkn⟩ : ∃ k : Nat, Int.tmod k8 ((l.length : Int) + 1) = (k : Int) ∧ k ≤ l.length := by
        have h1 := Int.tmod_nonneg ((l.length : Int) + 1) hk0.1
        have h2 := Int.tmod_lt_of_pos k8 (show (0 : Int) < (l.length : Int) + 1 by omega)
        exact ⟨(Int.tmod k8 ((l.length : Int) + 1)).toNat, by omega, by omega⟩
      have hAB := List.take_append_drop k l
      have hu2 : unl (l.take k ++ l.drop k) = true := by rw [hAB]; exact HU.out
      have hw2 : wfI (l.take k ++ l.drop k) := by rw [hAB]; exact HW.out
      have hsk := skyOf_len (l := l)
      have O1 := Lib.hid (ofC l HU.out HW.out (by omega))
      have O2 := Lib.hid (ofC (l.take k) (unl_app.1 hu2).1 (fun p hp => hw2 p (List.mem_append_left _ hp)) (by simp; omega))
      have O3 := Lib.hid (ofC (l.drop k) (unl_app.1 hu2).2.1 (fun p hp => hw2 p (List.mem_append_right _ hp)) (by simp; omega))
      have O4 := Lib.hid (ofC (skyOf l) (unl_sky HU.out) (wfI_sky HU.out HW.out) (by omega))
      have M1 := Lib.hid (mergeSky (l.take k) (l.drop k) hu2 hw2 (by rw [hAB]; omega))
      have M2 := Lib.hid (mergeSky (l.drop k) (l.take k) (unl_swap hu2) (fun p hp => hw2 p (by rw [List.mem_append] at *; exact hp.symm)) (by simp; omega))
      have M3 := Lib.hid (mergeC [] (skyOf l) (by decide) (rightF_sky HU.out) (unl_sky HU.out) (fun p hp => by simp at hp) (wfI_sky HU.out HW.out) (by simp; omega))
      have SM := Lib.hid (sameC (skyOf l) (by omega))
      rw [sky_swap hu2] at M2
      rw [hAB] at M1 M2
      rw [List.nil_append, sky_idem HU.out] at M3
      rw [sky_idem HU.out] at O4
      have htl : (l.take k).length = k := by simp; omega
      have hdl : (l.drop k).length = l.length - k := by simp
      have HTL := Lib.hid htl
      have HDL := Lib.hid hdl
      have HNC := Lib.hid hnc
      clear hAB hu2 hw2 hsk htl hdl HU HW
      generalize skyOf l = S at *
      generalize skyOf (l.take k) = SA at *
      generalize skyOf (l.drop k) = SB at *
      go_enter Try.func5, Try.ntmps5
      go_wp2_with fail
      refine (C1.out).mono ?_
      rintro e w10 ⟨rfl, hb10⟩
      have B10 := hb10
      have H_10 := Lib.hid (H.out.below hb10)
      clear hb10 H
      go_wp2_with fail
      refine (O1.out a l.length c w10 rfl H_10.out).mono ?_
      rintro e w11 ⟨aS1, cS1, rfl, gS1, S10, hb11⟩
      have B11 := B10.trans (hb11.mono B10.size)
      have H_11 := Lib.hid (H_10.out.below hb11)
      clear hb11 B10 H_10
      go_wp2_with (refine wp_sliceK elPoint H_11.out hnc 0 k (Nat.zero_le _) hkn rfl _ _ _ rfl rfl rfl rfl ?_; intro ad hr; simp only [Nat.sub_zero, List.drop_zero] at hr ⊢)
      refine (O2.out _ _ _ w11 HTL.out hr).mono ?_
      rintro e w12 ⟨aA, cA, rfl, gA, A0, hb12⟩
      have B12 := B11.trans (hb12.mono B11.size)
      have H_12 := Lib.hid (H_11.out.below hb12)
      have S1_12 := Lib.hid (S10.out.below hb12)
      clear hb12 B11 H_11 S10
      go_wp2_with (refine wp_sliceK elPoint H_12.out hnc k l.length hkn (Nat.le_refl _) rfl _ _ _ rfl rfl rfl rfl ?_; intro ad hr; simp only [List.take_length] at hr)
      refine (O3.out _ _ _ w12 HDL.out hr).mono ?_
      rintro e w13 ⟨aB, cB, rfl, gB, B0, hb13⟩
      have B13 := B12.trans (hb13.mono B12.size)
      have H_13 := Lib.hid (H_12.out.below hb13)
      have S1_13 := Lib.hid (S1_12.out.below hb13)
      have A_13 := Lib.hid (A0.out.below hb13)
      clear hb13 B12 H_12 S1_12 A0
      go_wp2_with fail
      refine (M1.out _ _ _ _ _ _ w13 rfl rfl gA gB A_13.out B0.out).mono ?_
      rintro e w14 ⟨aP, cP, rfl, gP, P0, hb14⟩
      have B14 := B13.trans (hb14.mono B13.size)
      have H_14 := Lib.hid (H_13.out.below hb14)
      have S1_14 := Lib.hid (S1_13.out.below hb14)
      have A_14 := Lib.hid (A_13.out.below hb14)
      have B_14 := Lib.hid (B0.out.below hb14)
      clear hb14 B13 H_13 S1_13 A_13 B0
      go_wp2_with fail
      refine (M2.out _ _ _ _ _ _ w14 rfl rfl gB gA B_14.out A_14.out).mono ?_
      rintro e w15 ⟨aQ, cQ, rfl, gQ, Q0, hb15⟩
      have B15 := B14.trans (hb15.mono B14.size)
      have H_15 := Lib.hid (H_14.out.below hb15)
      have S1_15 := Lib.hid (S1_14.out.below hb15)
      have A_15 := Lib.hid (A_14.out.below hb15)
      have B_15 := Lib.hid (B_14.out.below hb15)
      have P_15 := Lib.hid (P0.out.below hb15)
      clear hb15 B14 H_14 S1_14 A_14 B_14 P0
      go_wp2_with fail
      refine (M3.out _ _ _ _ _ _ w15 rfl rfl (Nat.le_refl _) gS1 .nil S1_15.out).mono ?_
      rintro e w16 ⟨aR, cR, rfl, gR, R0, hb16⟩
      have B16 := B15.trans (hb16.mono B15.size)
      have H_16 := Lib.hid (H_15.out.below hb16)
      have S1_16 := Lib.hid (S1_15.out.below hb16)
      have A_16 := Lib.hid (A_15.out.below hb16)
      have B_16 := Lib.hid (B_15.out.below hb16)
      have P_16 := Lib.hid (P_15.out.below hb16)
      have Q_16 := Lib.hid (Q0.out.below hb16)
      clear hb16 B15 H_15 S1_15 A_15 B_15 P_15 Q0
      go_wp2_with fail
      refine (O4.out _ _ _ w16 rfl S1_16.out).mono ?_
      rintro e w17 ⟨aT, cT, rfl, gT, T0, hb17⟩
      have B17 := B16.trans (hb17.mono B16.size)
      have H_17 := Lib.hid (H_16.out.below hb17)
      have S1_17 := Lib.hid (S1_16.out.below hb17)
      have A_17 := Lib.hid (A_16.out.below hb17)
      have B_17 := Lib.hid (B_16.out.below hb17)
      have P_17 := Lib.hid (P_16.out.below hb17)
      have Q_17 := Lib.hid (Q_16.out.below hb17)
      have R_17 := Lib.hid (R0.out.below hb17)
      clear hb17 B16 H_16 S1_16 A_16 B_16 P_16 Q_16 R0
      go_wp2_with fail
      refine (SM.out _ _ _ _ w17 P_17.out S1_17.out).mono ?_
      rintro e w18 ⟨rfl, hb18⟩
      have B18 := B17.trans (hb18.mono B17.size)
      have H_18 := Lib.hid (H_17.out.below hb18)
      have S1_18 := Lib.hid (S1_17.out.below hb18)
      have A_18 := Lib.hid (A_17.out.below hb18)
      have B_18 := Lib.hid (B_17.out.below hb18)
      have P_18 := Lib.hid (P_17.out.below hb18)
      have Q_18 := Lib.hid (Q_17.out.below hb18)
      have R_18 := Lib.hid (R_17.out.below hb18)
      have T_18 := Lib.hid (T0.out.below hb18)
      clear hb18 B17 H_17 S1_17 A_17 B_17 P_17 Q_17 R_17 T0
      go_wp2_with fail
      refine (SM.out _ _ _ _ w18 Q_18.out S1_18.out).mono ?_
      rintro e w19 ⟨rfl, hb19⟩
      have B19 := B18.trans (hb19.mono B18.size)
      have H_19 := Lib.hid (H_18.out.below hb19)
      have S1_19 := Lib.hid (S1_18.out.below hb19)
      have A_19 := Lib.hid (A_18.out.below hb19)
      have B_19 := Lib.hid (B_18.out.below hb19)
      have P_19 := Lib.hid (P_18.out.below hb19)
      have Q_19 := Lib.hid (Q_18.out.below hb19)
      have R_19 := Lib.hid (R_18.out.below hb19)
      have T_19 := Lib.hid (T_18.out.below hb19)
      clear hb19 B18 H_18 S1_18 A_18 B_18 P_18 Q_18 R_18 T_18
      go_wp2_with fail
      refine (SM.out _ _ _ _ w19 R_19.out S1_19.out).mono ?_
      rintro e w20 ⟨rfl, hb20⟩
      have B20 := B19.trans (hb20.mono B19.size)
      have H_20 := Lib.hid (H_19.out.below hb20)
      have S1_20 := Lib.hid (S1_19.out.below hb20)
      have A_20 := Lib.hid (A_19.out.below hb20)
      have B_20 := Lib.hid (B_19.out.below hb20)
      have P_20 := Lib.hid (P_19.out.below hb20)
      have Q_20 := Lib.hid (Q_19.out.below hb20)
      have R_20 := Lib.hid (R_19.out.below hb20)
      have T_20 := Lib.hid (T_19.out.below hb20)
      clear hb20 B19 H_19 S1_19 A_19 B_19 P_19 Q_19 R_19 T_19
      go_wp2_with fail
      refine (SM.out _ _ _ _ w20 T_20.out S1_20.out).mono ?_
      rintro e w21 ⟨rfl, hb21⟩
      have B21 := B20.trans (hb21.mono B20.size)
      have H_21 := Lib.hid (H_20.out.below hb21)
      have S1_21 := Lib.hid (S1_20.out.below hb21)
      have A_21 := Lib.hid (A_20.out.below hb21)
      have B_21 := Lib.hid (B_20.out.below hb21)
      have P_21 := Lib.hid (P_20.out.below hb21)
      have Q_21 := Lib.hid (Q_20.out.below hb21)
      have R_21 := Lib.hid (R_20.out.below hb21)
      have T_21 := Lib.hid (T_20.out.below hb21)
      clear hb21 B20 H_20 S1_20 A_20 B_20 P_20 Q_20 R_20 T_20
      go_wp2_with fail
      refine (AW.out w21).mono ?_
      rintro e w22 ⟨rfl, hb22⟩
      have B22 := B21.trans (hb22.mono B21.size)
      have H_22 := Lib.hid (H_21.out.below hb22)
      have S1_22 := Lib.hid (S1_21.out.below hb22)
      have A_22 := Lib.hid (A_21.out.below hb22)
      have B_22 := Lib.hid (B_21.out.below hb22)
      have P_22 := Lib.hid (P_21.out.below hb22)
      have Q_22 := Lib.hid (Q_21.out.below hb22)
      have R_22 := Lib.hid (R_21.out.below hb22)
      have T_22 := Lib.hid (T_21.out.below hb22)
      clear hb22 B21 H_21 S1_21 A_21 B_21 P_21 Q_21 R_21 T_21
      go_wp2_with fail
      go_ret
      exact ⟨rfl, B22⟩

set_option maxRecDepth 100000 in
set_option maxHeartbeats 4000000 in
theorem wStairThree (a : Option Addr) (l : List Pt) (n c : Nat) (k8 k9 : Int) (w : World) (hn : l.length = n) (h : RdK ePt 3 w a l) (hnc : n ≤ c ∧ c ≤ maxLen) (hw : wfI l) (hk8 : (Lit.int .u8 k8).wf = true) (hk9 : (Lit.int .u8 k9).wf = true) :
    Calls Try.prog 6 #[.slice a n c, .int .u8 k8, .int .u8 k9] w fun e w' => e = .returned (.bool true) ∧ Below w.heap.size w w' := by
  subst hn
  have AW := Lib.hid awake15
  obtain ⟨hnc, hcm⟩ := hnc
  unfold maxLen at hcm
  have H := Lib.hid h
  have HW := Lib.hid hw
  clear h hw
  by_cases h100 : 90 < l.length
  · go_enter Try.func6, Try.ntmps6
    go_wp2_with fail
    refine (AW.out w).mono ?_
    rintro e w1 ⟨rfl, hb⟩
    go_wp2_with fail
    go_ret
    exact ⟨rfl, hb⟩
  · have C1 := Lib.hid (unlike15 a l l.length c w rfl H.out (by omega))
    rcases Bool.eq_false_or_eq_true (unl l) with hu | hu
    rotate_left
    · rw [hu] at C1
      clear hu H HW
      go_enter Try.func6, Try.ntmps6
      go_wp2_with fail
      refine C1.out.mono ?_
      rintro e w1 ⟨rfl, hb⟩
      go_wp2_with fail
      refine (AW.out w1).mono ?_
      rintro e w2 ⟨rfl, hb2⟩
      go_wp2_with fail
      go_ret
      exact ⟨rfl, hb.trans (hb2.mono hb.size)⟩
    · rw [hu] at C1
      have HU := Lib.hid hu
      clear hu
      have hk0 : 0 ≤ k8 ∧ k8 ≤ 255 := by
        have h1 : IntKind.u8.min ≤ k8 ∧ k8 ≤ IntKind.u8.max := by simpa [Lit.wf] using hk8
        have e1 : IntKind.u8.min = 0 := by decide
        have e2 : IntKind.u8.max = 255 := by decide
        omega
      have hk0b : 0 ≤ k9 ∧ k9 ≤ 255 := by
        have h1 : IntKind.u8.min ≤ k9 ∧ k9 ≤ IntKind.u8.max := by simpa [Lit.wf] using hk9
        have e1 : IntKind.u8.min = 0 := by decide
        have e2 : IntKind.u8.max = 255 := by decide
        omega
      have hlen : l.length ≤ 90 := by omega
      obtain ⟨k1, hk1, hk1n⟩ : ∃ k1 : Nat, Int.tmod k8 ((l.length : Int) + 1) = (k1 : Int) ∧ k1 ≤ l.length := by
        have h1 := Int.tmod_nonneg ((l.length : Int) + 1) hk0.1
        have h2 := Int.tmod_lt_of_pos k8 (show (0 : Int) < (l.length : Int) + 1 by omega)
        exact ⟨(Int.tmod k8 ((l.length : Int) + 1)).toNat, by omega, by omega⟩
      obtain ⟨k2, hk2, hk2n⟩ : ∃ k2 : Nat, Int.tmod k9 ((l.length : Int) + 1) = (k2 : Int) ∧ k2 ≤ l.length := by
        have h1 := Int.tmod_nonneg ((l.length : Int) + 1) hk0b.1
        have h2 := Int.tmod_lt_of_pos k9 (show (0 : Int) < (l.length : Int) + 1 by omega)
        exact ⟨(Int.tmod k9 ((l.length : Int) + 1)).toNat, by omega, by omega⟩
      obtain ⟨i, k, hmi, hma, hik, hkn⟩ : ∃ i k : Nat, min (k1 : Int) (k2 : Int) = (i : Int) ∧ max (k1 : Int) (k2 : Int) = (k : Int) ∧ i ≤ k ∧ k ≤ l.length := ⟨min k1 k2, max k1 k2, by omega, by omega, by omega, by omega⟩
      have e12 : l.take i ++ (l.take k).drop i = l.take k := by
        have := List.take_append_drop i (l.take k)
        rw [List.take_take, Nat.min_eq_left hik] at this
        exact this
      have hAB := List.take_append_drop k l
      have e23 : (l.take k).drop i ++ l.drop k = l.drop i := by
        have h1 : (l.take k ++ l.drop k).drop i = (l.take k).drop i ++ l.drop k := by rw [List.drop_append_of_le_length (by simp; omega)]
        rw [← h1, hAB]
      have e123 := List.take_append_drop i l
      have hu12 : unl (l.take k ++ l.drop k) = true := by rw [hAB]; exact HU.out
      have hu23 : unl (l.take i ++ l.drop i) = true := by rw [e123]; exact HU.out
      have huk := (unl_app.1 hu12).1
      have hui := (unl_app.1 hu23).2.1
      have hw0 : ∀ {m : List Pt}, (∀ p ∈ m, p ∈ l) → wfI m := fun hm p hp => HW.out p (hm p hp)
      have hsk := skyOf_len (l := l)
      have sb1 : ∀ p ∈ l.take i, p ∈ l := fun p hp => List.mem_of_mem_take hp
      have sb2 : ∀ p ∈ (l.take k).drop i, p ∈ l := fun p hp => List.mem_of_mem_take (List.mem_of_mem_drop hp)
      have sb3 : ∀ p ∈ l.drop k, p ∈ l := fun p hp => List.mem_of_mem_drop hp
      have sb4 : ∀ p ∈ l.take k, p ∈ l := fun p hp => List.mem_of_mem_take hp
      have sb5 : ∀ p ∈ l.drop i, p ∈ l := fun p hp => List.mem_of_mem_drop hp
      have O1 := Lib.hid (ofC (l.take i) (unl_app.1 hu23).1 (hw0 sb1) (by simp; omega))
      have O2 := Lib.hid (ofC ((l.take k).drop i) (by rw [← e12] at huk; exact (unl_app.1 huk).2.1) (hw0 sb2) (by simp; omega))
      have O3 := Lib.hid (ofC (l.drop k) (unl_app.1 hu12).2.1 (hw0 sb3) (by simp; omega))
      have M1 := Lib.hid (mergeSky (l.take i) ((l.take k).drop i) (by rw [e12]; exact huk) (by rw [e12]; exact hw0 sb4) (by rw [e12]; simp; omega))
      have M2 := Lib.hid (mergeSky ((l.take k).drop i) (l.drop k) (by rw [e23]; exact hui) (by rw [e23]; exact hw0 sb5) (by rw [e23]; simp; omega))
      have M3 := Lib.hid (mergeSky (l.take k) (l.drop k) hu12 (by rw [hAB]; exact HW.out) (by rw [hAB]; omega))
      have M4 := Lib.hid (mergeSky (l.take i) (l.drop i) hu23 (by rw [e123]; exact HW.out) (by rw [e123]; omega))
      have SM := Lib.hid (sameC (skyOf l) (by omega))
      rw [e12] at M1
      rw [e23] at M2
      rw [hAB] at M3
      rw [e123] at M4
      have HL1 : Hid ((l.take i).length = i) := by show _ = _; simp; omega
      have HL2 : Hid (((l.take k).drop i).length = k - i) := by show _ = _; simp; omega
      have HL3 : Hid ((l.drop k).length = l.length - k) := by show _ = _; simp
      clear hAB e12 e23 e123 hu12 hu23 huk hui hsk sb1 sb2 sb3 sb4 sb5 HU HW
      generalize skyOf l = S at *
      generalize skyOf (l.take i) = SA at *
      generalize skyOf ((l.take k).drop i) = SB at *
      generalize skyOf (l.drop k) = SC at *
      generalize skyOf (l.take k) = SAB at *
      generalize skyOf (l.drop i) = SBC at *
      go_enter Try.func6, Try.ntmps6
      go_wp2_with fail
      refine (C1.out).mono ?_
      rintro e w10 ⟨rfl, hb10⟩
      have B10 := hb10
      have H_10 := Lib.hid (H.out.below hb10)
      clear hb10 H
      go_wp2
      go_region
      all_goals
        have BD : Below w.heap.size w w10.drew := B10.drew
        have HD := Lib.hid (H_10.out.below ((Below.refl w10.heap.size w10).drew))
        clear H_10 B10
        go_wp2_with (refine wp_sliceK elPoint HD.out hnc 0 i (Nat.zero_le _) (Nat.le_trans hik hkn) rfl _ _ _ rfl rfl rfl rfl ?_; intro ad hr; simp only [Nat.sub_zero, List.drop_zero] at hr ⊢)
        refine (O1.out _ _ _ w10.drew HL1.out hr).mono ?_
        rintro e w11 ⟨aA, cA, rfl, gA, A0, hb11⟩
        have B11 := BD.trans (hb11.mono BD.size)
        have H_11 := Lib.hid (HD.out.below hb11)
        clear hb11 BD HD
        go_wp2_with (refine wp_sliceK elPoint H_11.out hnc i k hik hkn rfl _ _ _ rfl rfl rfl rfl ?_; intro ad hr)
        refine (O2.out _ _ _ w11 HL2.out hr).mono ?_
        rintro e w12 ⟨aB, cB, rfl, gB, B0, hb12⟩
        have B12 := B11.trans (hb12.mono B11.size)
        have H_12 := Lib.hid (H_11.out.below hb12)
        have A_12 := Lib.hid (A0.out.below hb12)
        clear hb12 B11 H_11 A0
        go_wp2_with (refine wp_sliceK elPoint H_12.out hnc k l.length hkn (Nat.le_refl _) rfl _ _ _ rfl rfl rfl rfl ?_; intro ad hr; simp only [List.take_length] at hr)
        refine (O3.out _ _ _ w12 HL3.out hr).mono ?_
        rintro e w13 ⟨aC, cC, rfl, gC, C0, hb13⟩
        have B13 := B12.trans (hb13.mono B12.size)
        have H_13 := Lib.hid (H_12.out.below hb13)
        have A_13 := Lib.hid (A_12.out.below hb13)
        have B_13 := Lib.hid (B0.out.below hb13)
        clear hb13 B12 H_12 A_12 B0
        go_wp2_with fail
        refine (M1.out _ _ _ _ _ _ w13 rfl rfl gA gB A_13.out B_13.out).mono ?_
        rintro e w14 ⟨aD, cD, rfl, gD, D0, hb14⟩
        have B14 := B13.trans (hb14.mono B13.size)
        have H_14 := Lib.hid (H_13.out.below hb14)
        have A_14 := Lib.hid (A_13.out.below hb14)
        have B_14 := Lib.hid (B_13.out.below hb14)
        have C_14 := Lib.hid (C0.out.below hb14)
        clear hb14 B13 H_13 A_13 B_13 C0
        go_wp2_with fail
        refine (M2.out _ _ _ _ _ _ w14 rfl rfl gB gC B_14.out C_14.out).mono ?_
        rintro e w15 ⟨aE, cE, rfl, gE, E0, hb15⟩
        have B15 := B14.trans (hb15.mono B14.size)
        have H_15 := Lib.hid (H_14.out.below hb15)
        have A_15 := Lib.hid (A_14.out.below hb15)
        have B_15 := Lib.hid (B_14.out.below hb15)
        have C_15 := Lib.hid (C_14.out.below hb15)
        have D_15 := Lib.hid (D0.out.below hb15)
        clear hb15 B14 H_14 A_14 B_14 C_14 D0
        go_wp2_with fail
        refine (M3.out _ _ _ _ _ _ w15 rfl rfl gD gC D_15.out C_15.out).mono ?_
        rintro e w16 ⟨aF, cF, rfl, gF, F0, hb16⟩
        have B16 := B15.trans (hb16.mono B15.size)
        have H_16 := Lib.hid (H_15.out.below hb16)
        have A_16 := Lib.hid (A_15.out.below hb16)
        have B_16 := Lib.hid (B_15.out.below hb16)
        have C_16 := Lib.hid (C_15.out.below hb16)
        have D_16 := Lib.hid (D_15.out.below hb16)
        have E_16 := Lib.hid (E0.out.below hb16)
        clear hb16 B15 H_15 A_15 B_15 C_15 D_15 E0
        go_wp2_with fail
        refine (M4.out _ _ _ _ _ _ w16 rfl rfl gA gE A_16.out E_16.out).mono ?_
        rintro e w17 ⟨aG, cG, rfl, gG, G0, hb17⟩
        have B17 := B16.trans (hb17.mono B16.size)
        have H_17 := Lib.hid (H_16.out.below hb17)
        have A_17 := Lib.hid (A_16.out.below hb17)
        have B_17 := Lib.hid (B_16.out.below hb17)
        have C_17 := Lib.hid (C_16.out.below hb17)
        have D_17 := Lib.hid (D_16.out.below hb17)
        have E_17 := Lib.hid (E_16.out.below hb17)
        have F_17 := Lib.hid (F0.out.below hb17)
        clear hb17 B16 H_16 A_16 B_16 C_16 D_16 E_16 F0
        go_wp2_with fail
        refine (SM.out _ _ _ _ w17 F_17.out G0.out).mono ?_
        rintro e w18 ⟨rfl, hb18⟩
        have B18 := B17.trans (hb18.mono B17.size)
        have H_18 := Lib.hid (H_17.out.below hb18)
        have A_18 := Lib.hid (A_17.out.below hb18)
        have B_18 := Lib.hid (B_17.out.below hb18)
        have C_18 := Lib.hid (C_17.out.below hb18)
        have D_18 := Lib.hid (D_17.out.below hb18)
        have E_18 := Lib.hid (E_17.out.below hb18)
        have F_18 := Lib.hid (F_17.out.below hb18)
        have G_18 := Lib.hid (G0.out.below hb18)
        clear hb18 B17 H_17 A_17 B_17 C_17 D_17 E_17 F_17 G0
        go_wp2_with fail
        refine (AW.out w18).mono ?_
        rintro e w19 ⟨rfl, hb19⟩
        have B19 := B18.trans (hb19.mono B18.size)
        have H_19 := Lib.hid (H_18.out.below hb19)
        have A_19 := Lib.hid (A_18.out.below hb19)
        have B_19 := Lib.hid (B_18.out.below hb19)
        have C_19 := Lib.hid (C_18.out.below hb19)
        have D_19 := Lib.hid (D_18.out.below hb19)
        have E_19 := Lib.hid (E_18.out.below hb19)
        have F_19 := Lib.hid (F_18.out.below hb19)
        have G_19 := Lib.hid (G_18.out.below hb19)
        clear hb19 B18 H_18 A_18 B_18 C_18 D_18 E_18 F_18 G_18
        go_wp2_with fail
        go_ret
        exact ⟨rfl, B19⟩

end Go.Proofs.Ytpebefcmloablaa
