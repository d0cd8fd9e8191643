/- The law NamesAgain. -/
import Derived.Test.YtpebefcmloablaaW21
import Derived.Test.YtpebefcmloablaaSlc
import Derived.Test.YtpebefcmloablaaLiftO
namespace Go.Proofs.Ytpebefcmloablaa
open Go.RowKit Go.Maps
set_option linter.unusedSimpArgs false
set_option linter.unusedVariables false

theorem objOp_cells (w : World) (d i p : Int) : (w.alloc (.cells #[.int .u8 d, .int .u32 i, .int .i64 p] 51)).cell? ⟨w.heap.size, 0, none⟩ = some (.int .u8 d) ∧ (w.alloc (.cells #[.int .u8 d, .int .u32 i, .int .i64 p] 51)).cell? ⟨w.heap.size, 1, none⟩ = some (.int .u32 i) ∧ (w.alloc (.cells #[.int .u8 d, .int .u32 i, .int .i64 p] 51)).cell? ⟨w.heap.size, 2, none⟩ = some (.int .i64 p) := by
  refine ⟨?_, ?_, ?_⟩ <;> (rw [World.cell?_alloc_at _ _ _ _ rfl]; rfl)

theorem wf_u8 {x : Int} (h : (Lit.int .u8 x).wf = true) : 0 ≤ x ∧ x ≤ 255 := by
  simpa [Lit.wf, IntKind.min, IntKind.max, IntKind.bits, IntKind.signed] using h

theorem Own.len {W : World} {base A m : Nat} {D : List (Int × Int)} (h : Own W base A m D) : D.length ≤ m := by
  obtain ⟨Cb, bv, pv, lv, cv, bh, ch, al, pl, n, N, wk, hr, hw, hd, hm, hS⟩ := h
  have h1 := hd.len
  have h2 : al.count true ≤ al.length := List.count_le_length
  omega

theorem not_in_filter (D : List (Int × Int)) (id : Int) : ∀ q, (id, q) ∉ D.filter fun x => decide (x.1 ≠ id) := fun q h => by
  have := (List.mem_filter.1 h).2
  simp at this

theorem filter_back {D : List (Int × Int)} {id : Int} (h : ∀ q, (id, q) ∉ D) (p : Int) : (D ++ [(id, p)]).filter (fun x => decide (x.1 ≠ id)) = D := by
  rw [List.filter_append, List.filter_eq_self.2 fun x hx => by
    simp only [decide_eq_true_eq]
    intro e
    exact h x.2 (by rw [← e]; exact hx)]
  simp

set_option maxRecDepth 100000 in
set_option maxHeartbeats 8000000 in
theorem wNamesAgain (a : Option Addr) (ops : List Op21) (n c : Nat) (id one two : Int) (W : World) (e0 : ops.length = n) (r0 : RdK eOp 3 W a ops) (m0 : n ≤ c ∧ c ≤ maxLen) (f0 : ∀ x ∈ ops, (Lit.int .u8 x.1).wf = true ∧ (Lit.int .u32 x.2.1).wf = true ∧ (Lit.int .i64 x.2.2).wf = true) :
    Calls Try.prog 11 #[.slice a n c, .int .u32 id, .int .i64 one, .int .i64 two] W fun e w' => e = .returned (.bool true) ∧ Below W.heap.size W w' := by
  subst e0
  have hc : ops.length ≤ c := m0.1
  have hc2 : ops.length ≤ 9223372036854775807 := by have := m0.2; unfold maxLen at this; omega
  have HF := Lib.hid f0
  have HRD := Lib.hid r0
  obtain ⟨B, hB⟩ : ∃ B, B = W.heap.size := ⟨_, rfl⟩
  have C1 : Hid (Calls Try.prog 28 #[] W fun e w' => e = .returned (.pointer (some ⟨B + 1, 0, none⟩)) ∧ Own w' B (B + 1) 0 [] ∧ Below B W w') := by rw [hB]; exact oNew W
  have HBW := Lib.hid hB
  have hBW : B ≤ W.heap.size := Nat.le_of_eq hB
  rw [← hB]
  clear m0 f0 r0 hB
  go_enter Try.func11, Try.ntmps11
  go_wp2_with fail
  refine C1.out.mono ?_
  rintro e w1 ⟨rfl, o, hb⟩
  have O1 := Lib.hid o
  have HB1 := Lib.hid hb
  have h1 := hb.size
  clear o hb C1
  obtain ⟨m, hm, hm1, hm2⟩ : ∃ m : Nat, min (ops.length : Int) 60 = (m : Int) ∧ m ≤ ops.length ∧ m ≤ 60 := ⟨min ops.length 60, by omega, by omega, by omega⟩
  go_wp2_with (refine wp_sliceKA elOp (HRD.out.below HB1.out (by rw [HBW.out]; exact Nat.le_refl _)) hc 0 m (Nat.zero_le _) hm1 rfl _ _ _ rfl rfl rfl rfl ?_; intro ad hr; simp only [Nat.sub_zero, List.drop_zero] at hr ⊢)
  have hPl : (ops.take m).length = m := by simp; omega
  have HPR : Hid (∀ W', Below B W W' → RdK eOp 3 W' ad (ops.take m)) := fun W' hb => hr W' (HRD.out.below hb (by rw [HBW.out]; exact Nat.le_refl _))
  have HFP : Hid (∀ x ∈ ops.take m, 0 ≤ x.1 ∧ x.1 ≤ 255) := fun x hx => wf_u8 (HF.out x (List.mem_of_mem_take hx)).1
  clear hr hm HF
  generalize ops.take m = P at *
  subst hPl
  go_loopw [27] (fun kv wr => ∃ k : Nat, kv = .int .i64 k ∧ k ≤ P.length ∧ Hid (∃ D, Own wr B (B + 1) k D) ∧ Below B W wr) (fun kv _ => P.length - (intOf kv).toNat)
  case atStart => exact ⟨0, rfl, Nat.zero_le _, ⟨_, O1.out⟩, HB1.out⟩
  case round =>
    obtain ⟨k, rfl, hk, HO, hb⟩ := hrel
    obtain ⟨D, O⟩ := HO.out
    have HD := Lib.hid O
    have hsz := hb.size
    have hBr : B ≤ wr.heap.size := Nat.le_trans hBW hsz
    clear HO O
    by_cases hkl : k < P.length
    · obtain ⟨b, off, ea, hbl, hcs⟩ := (HPR.out wr hb).get (by omega)
      have x0 := hcs k hkl 0 (by omega)
      have x1 := hcs k hkl 1 (by omega)
      have x2 := hcs k hkl 2 (by omega)
      simp only [eOp, List.getElem?_cons_zero, List.getElem?_cons_succ, Nat.add_zero] at x0 x1 x2
      obtain ⟨hd0, hd1⟩ := HFP.out P[k] (List.getElem_mem hkl)
      have EA := Lib.hid ea
      clear hcs ea
      generalize P[k] = r at *
      obtain ⟨d, oi, op⟩ := r
      simp only at x0 x1 x2 hd0 hd1
      have hkl2 : (k : Int) < (P.length : Int) := by omega
      obtain rfl := EA.out
      clear EA
      obtain ⟨y0, y1, y2⟩ := objOp_cells wr d oi op
      have HB2 : Hid (Below B W (wr.alloc (.cells #[.int .u8 d, .int .u32 oi, .int .i64 op] 51))) := Lib.hid (hb.alloc hBr _)
      have OA := Lib.hid (HD.out.below ((Below.refl _ _).alloc (Nat.le_refl _) (.cells #[.int .u8 d, .int .u32 oi, .int .i64 op] 51)))
      have hBa : B ≤ (wr.alloc (.cells #[.int .u8 d, .int .u32 oi, .int .i64 op] 51)).heap.size := by simp; omega
      have HBX := Lib.hid hb
      clear hb
      have hd3 : d % 3 = 0 ∨ d % 3 = 1 ∨ d % 3 = 2 := by omega
      rcases hd3 with h3 | h3 | h3
      · have t0 : (d % 3 == 0) = true := by simp [h3]
        clear h3
        go_wp2_with fail
        refine (oPut OA.out hBa (by omega) oi op).mono ?_
        rintro e w2 ⟨⟨kk, rfl⟩, ⟨D2, o2⟩, hb2, -⟩
        have O2 := Lib.hid o2
        have HB3 := HB2.out.trans hb2
        clear o2 hb2 x0 x1 x2 y0 y1 y2
        go_wp2
        go_roundw
        case rel => exact ⟨k + 1, by go_num, by omega, ⟨_, O2.out⟩, HB3⟩
        case measure => simp [intOf]; omega
      · have t0 : (d % 3 == 0) = false := by simp [h3]
        have t2 : (d % 3 == 2) = false := by simp [h3]
        clear h3
        go_wp2
        go_roundw
        case rel => exact ⟨k + 1, by go_num, by omega, ⟨_, OA.out.more (by omega)⟩, HB2.out⟩
        case measure => simp [intOf]; omega
      · have t0 : (d % 3 == 0) = false := by simp [h3]
        have t2 : (d % 3 == 2) = true := by simp [h3]
        clear h3
        go_wp2_with fail
        refine (oDrop OA.out hBa oi).mono ?_
        rintro e w2 ⟨⟨kk, bb, rfl⟩, o2, hb2, -⟩
        have O2 := Lib.hid o2
        have HB3 := HB2.out.trans hb2
        clear o2 hb2 x0 x1 x2 y0 y1 y2
        go_wp2
        go_roundw
        case rel => exact ⟨k + 1, by go_num, by omega, ⟨_, O2.out.more (by omega)⟩, HB3⟩
        case measure => simp [intOf]; omega
    · have HB0 := Lib.hid hb
      have O60 := Lib.hid (HD.out.more (show k ≤ 60 by omega))
      have hge : ¬ (k : Int) < (P.length : Int) := by omega
      clear hb HD
      go_wp2_with fail
      refine (oDrop O60.out hBr id).mono ?_
      rintro e w2 ⟨⟨kk, bb, rfl⟩, o2, hb2, -⟩
      have HB2 := Lib.hid (HB0.out.trans hb2)
      have h2 : B ≤ w2.heap.size := Nat.le_trans hBr hb2.size
      have HN := Lib.hid (not_in_filter D id)
      have hlen := o2.len
      generalize (D.filter fun x => decide (x.1 ≠ id)) = E at *
      have O2 := Lib.hid o2
      clear o2 hb2
      go_wp2_with fail
      refine (dAll O2.out).mono ?_
      rintro e w3 ⟨v3, rfl, hown, hb3⟩
      have h3 : B ≤ w3.heap.size := Nat.le_trans h2 hb3.size
      have O3 := Lib.hid (O2.out.below hb3)
      have HB3 := Lib.hid (HB2.out.trans (hb3.mono h2))
      obtain ⟨SL, hSL⟩ : ∃ SL, SL = (E.map (·.1)).mergeSort fun x y => decide (x ≤ y) := ⟨_, rfl⟩
      have hSLl : SL.length = E.length := by rw [hSL, List.length_mergeSort, List.length_map]
      rw [← hSL] at hown
      have HSL := Lib.hid hSL
      have HL := Lib.hid hSLl
      have hsl0 : SL.length ≤ 60 := by rw [hSLl]; exact hlen
      obtain ⟨av, cp, rfl, -, -, hrd⟩ := Rd.of_owns hown
      have HRA := Lib.hid hown
      clear hSL hSLl hrd hown hb3 hlen
      go_wp2_with fail
      refine (oPut_new O3.out h3 (by decide) id one HN.out).mono ?_
      rintro e w4 ⟨rfl, o, hb4, hkp⟩
      have h4 : B ≤ w4.heap.size := Nat.le_trans h3 hb4.size
      have O4 := Lib.hid o
      have HB4 := Lib.hid (HB3.out.trans hb4)
      have HR4 := Lib.hid (hkp.row HRA.out (by decide))
      clear o hb4 hkp HRA
      go_wp2_with fail
      refine (oDrop_yes O4.out h4 id one (by simp)).mono ?_
      rintro e w5 ⟨rfl, o, hb5, hkp⟩
      rw [filter_back HN.out] at o
      have h5 : B ≤ w5.heap.size := Nat.le_trans h4 hb5.size
      have O5 := Lib.hid o
      have HB5 := Lib.hid (HB4.out.trans hb5)
      have HR5 := Lib.hid (hkp.row HR4.out (by decide))
      clear o hb5 hkp HR4
      go_wp2_with fail
      refine (oPut_new O5.out h5 (by decide) id two HN.out).mono ?_
      rintro e w6 ⟨rfl, o, hb6, hkp⟩
      have h6 : B ≤ w6.heap.size := Nat.le_trans h5 hb6.size
      have O6 := Lib.hid o
      have HB6 := Lib.hid (HB5.out.trans hb6)
      have HR6 := Lib.hid (hkp.row HR5.out (by decide))
      clear o hb6 hkp HR5
      go_wp2_with fail
      refine (dFind O6.out id).mono ?_
      rintro e w7 ⟨t, -, hk7, hb7⟩
      obtain rfl : e = .returned (.tuple #[.int .i64 two, .bool true, .int .i64 t]) := by
        rcases hk7 with ⟨p, h9, h8⟩ | ⟨h9, -⟩
        · rcases List.mem_append.1 h9 with h7 | h7
          · exact absurd h7 (HN.out p)
          · simp at h7; rw [h8, h7]
        · exact absurd (show (id, two) ∈ _ by simp) (h9 two)
      have h7 : B ≤ w7.heap.size := Nat.le_trans h6 hb7.size
      have O7 := Lib.hid (O6.out.below hb7)
      have HB7 := Lib.hid (HB6.out.trans (hb7.mono h6))
      have HR7 := Lib.hid (ownsRow_below HR6.out hb7)
      have CLN := dLen O7.out
      rw [show (((E ++ [(id, two)]).length : Nat) : Int) = (SL.length : Int) + 1 by rw [List.length_append, HL.out]; simp] at CLN
      have HCLN := Lib.hid CLN
      clear hk7 hb7 CLN
      go_wp2_with fail
      refine HCLN.out.mono ?_
      rintro e w8 ⟨rfl, hb8⟩
      have h8 : B ≤ w8.heap.size := Nat.le_trans h7 hb8.size
      have O8 := Lib.hid (O7.out.below hb8)
      have HB8 := Lib.hid (HB7.out.trans (hb8.mono h7))
      have HR8 := Lib.hid (ownsRow_below HR7.out hb8)
      have dl : ((SL.length : Int) + 1 != (SL.length : Int) + 1) = false := by simp
      clear hb8
      go_wp2_with fail
      refine (oDrop_yes O8.out h8 id two (by simp)).mono ?_
      rintro e w9 ⟨rfl, o, hb9, hkp⟩
      rw [filter_back HN.out] at o
      have h9 : B ≤ w9.heap.size := Nat.le_trans h8 hb9.size
      have O9 := Lib.hid o
      have HB9 := Lib.hid (HB8.out.trans hb9)
      have HR9 := Lib.hid (hkp.row HR8.out (by decide))
      clear o hb9 hkp HR8
      go_wp2_with fail
      refine (dAll O9.out).mono ?_
      rintro e w10 ⟨v10, rfl, hown, hb10⟩
      have HB10 := Lib.hid (HB9.out.trans (hb10.mono h9))
      rw [← HSL.out] at hown
      obtain ⟨av2, cp2, rfl, -, -, hrd⟩ := Rd.of_owns hown
      have HRB := Lib.hid hrd
      have HR10 := ownsRow_below HR9.out hb10
      obtain ⟨av3, cp3, e3, -, -, hrd3⟩ := Rd.of_owns HR10
      injection e3 with e3 _ e4
      subst e3 e4
      have HRA := Lib.hid hrd3
      have hwl : w9.heap.size ≤ w10.heap.size := hb10.size
      have hbw10 : B ≤ w10.heap.size := Nat.le_trans h9 hwl
      clear hrd hown hb10 HR10 hrd3
      have dn : ((SL.length : Int) != (SL.length : Int)) = false := by simp
      go_wp2_with fail
      go_loopw [113] (fun kv wr => ∃ k : Nat, kv = .int .i64 k ∧ k ≤ SL.length ∧ Below w10.heap.size w10 wr) (fun kv _ => SL.length - (intOf kv).toNat)
      case atStart => exact ⟨0, rfl, Nat.zero_le _, Below.refl _ _⟩
      case round =>
        obtain ⟨j, rfl, hj, hb⟩ := hrel
        by_cases hjl : j < SL.length
        · obtain ⟨b1, o1, ea1, hbl1, hc1⟩ := (HRA.out.below hb).get (by omega)
          obtain ⟨b2, o2, ea2, hbl2, hc2⟩ := (HRB.out.below hb).get (by omega)
          have x1 := hc1 j hjl
          have x2 := hc2 j hjl
          have EA1 := Lib.hid ea1
          have EA2 := Lib.hid ea2
          clear hc1 hc2 ea1 ea2
          generalize SL[j] = x at *
          obtain rfl := EA1.out
          obtain rfl := EA2.out
          clear EA1 EA2
          have dx : (x != x) = false := by simp
          have hjl2 : (j : Int) < (SL.length : Int) := by omega
          have HB := Lib.hid (hb.drew)
          clear hb
          go_wp2
          go_region
          all_goals
            go_wp2
            go_roundw
            case rel => exact ⟨j + 1, by go_num, by omega, HB.out⟩
            case measure => simp [intOf]; omega
        · obtain rfl : j = SL.length := by omega
          have HB := Lib.hid (HB10.out.trans (hb.mono hbw10))
          have hs := hb.size
          clear hb
          go_wp2_with fail
          refine (awake21 wr).mono ?_
          rintro e w12 ⟨rfl, hb12⟩
          have HBF := Lib.hid (HB.out.trans (hb12.mono (by omega)))
          clear hb12
          go_wp2
          go_ret
          exact ⟨rfl, HBF.out⟩

end Go.Proofs.Ytpebefcmloablaa
