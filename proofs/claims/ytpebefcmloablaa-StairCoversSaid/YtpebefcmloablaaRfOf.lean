/- gridironref15.Of: the skyline, put in order one by one. -/
import Derived.Test.YtpebefcmloablaaRfOP
import Derived.Test.YtpebefcmloablaaMrg
namespace Go.Proofs.Ytpebefcmloablaa
open Go.RowKit Go.Maps

attribute [local irreducible] wpQuiet

theorem flat_row (S : List Pt) (k : Nat) (hk : k < S.length) (j : Nat) (hj : j < 3) : (S.flatMap ePt)[k * 3 + j]? = (ePt S[k])[j]? := flat_get ePt_len S k hk j hj

section
variable {w : World} {base g n cv : Nat} {S : List Pt}
/-- the cells of an owned row of points -/
theorem ptsCell (h : w.ownsRow base 33 3 (.slice (some ⟨g, 0, none⟩) n cv) n (S.flatMap ePt)) (k : Nat) (hk : k < S.length) :
    w.cell? ⟨g, k * 3, none⟩ = some (.int .i64 S[k].1) ∧ w.cell? ⟨g, k * 3 + 1, none⟩ = some (.int .i64 S[k].2.1) ∧ w.cell? ⟨g, k * 3 + 2, none⟩ = some (.int .u32 S[k].2.2) := by
  have hn := h.1
  rw [flat_len ePt_len] at hn
  have e0 := h.cellAt (k * 3 + 0) (by omega)
  have e1 := h.cellAt (k * 3 + 1) (by omega)
  have e2 := h.cellAt (k * 3 + 2) (by omega)
  rw [flat_row S k hk _ (by omega)] at e0 e1 e2
  exact ⟨e0, e1, e2⟩

/-- a point is written into an owned row -/
theorem ptsStore (h : w.ownsRow base 33 3 (.slice (some ⟨g, 0, none⟩) n cv) n (S.flatMap ePt)) (k : Nat) (hk : k < S.length) (p : Pt) :
    (((w.setCell ⟨g, k * 3, none⟩ (.int .i64 p.1)).setCell ⟨g, k * 3 + 1, none⟩ (.int .i64 p.2.1)).setCell ⟨g, k * 3 + 2, none⟩ (.int .u32 p.2.2)).ownsRow base 33 3 (.slice (some ⟨g, 0, none⟩) n cv) n ((S.set k p).flatMap ePt) := by
  rw [← flat_set3 S k p hk]
  exact (((h.stored (k * 3) _).1.stored (k * 3 + 1) _).1.stored (k * 3 + 2) _).1
end

set_option maxRecDepth 100000 in
set_option maxHeartbeats 4000000 in
theorem ref_of (a : Option Addr) (l : List Pt) (n c : Nat) (w : World) (hn : l.length = n) (h : RdK ePt 3 w a l) (hl : n ≤ 1000000) (hu : unl l = true) :
    Calls Try.prog 18 #[.slice a n c] w fun e w' => ∃ v, e = .returned v ∧ w'.ownsRow w.heap.size 33 3 v (skyOf l).length ((skyOf l).flatMap ePt) ∧ Below w.heap.size w w' := by
  subst hn
  have hnd := (unl_iff l).1 hu
  have HR := Lib.hid h
  have HND := Lib.hid hnd
  have HO := Lib.hid (fun q p W => ref_over q p W)
  clear h hu hnd
  go_enter Try.func18, Try.ntmps18
  go_wp2
  go_loopw [3, 4] (fun v iv wr => ∃ (i : Nat) (O : List Pt) (ao : Option Addr) (xo : Nat), iv = .int .i64 i ∧ i ≤ l.length ∧ v = .slice ao O.length xo ∧ Hid (wr.ownsRow w.heap.size 33 3 (.slice ao O.length xo) O.length (O.flatMap ePt)) ∧ Hid (SkyPre l i O) ∧ O.length ≤ i ∧ Below w.heap.size w wr) (fun _ iv _ => l.length - (intOf iv).toNat)
  case atStart => exact ⟨0, [], none, 0, rfl, Nat.zero_le _, rfl, World.ownsRow_nil _ _ _ _, skyPre_nil l, Nat.le_refl _, Below.refl _ _⟩
  case round =>
    obtain ⟨i, O, ao, xo, rfl, hi, rfl, HOW, HP, hOi, hb⟩ := hrel
    by_cases hlt : i < l.length
    · obtain ⟨wo, ewo⟩ : ∃ wo : World, wo = wr := ⟨_, rfl⟩
      subst ewo
      have hs0 := hb.size
      have HB0 := Lib.hid hb
      clear hb
      go_wp2
      go_loopw [5, 6] (fun bv kv wr => ∃ k : Nat, kv = .int .i64 k ∧ k ≤ l.length ∧ bv = .bool (btn (l.take k) l[i]) ∧ Below wo.heap.size wo wr) (fun _ kv _ => l.length - (intOf kv).toNat)
      case atStart => exact ⟨0, rfl, Nat.zero_le _, rfl, Below.refl _ _⟩
      case round =>
        obtain ⟨k, rfl, hk, rfl, hb⟩ := hrel
        by_cases hkl : k < l.length
        · have BK := Lib.hid (btn_take_succ l l[i] hkl)
          obtain ⟨b, off, ea, hbl, hcs⟩ := (HR.out.below (HB0.out.trans (hb.mono hs0))).get (by omega)
          have x0 := hcs k hkl 0 (by omega)
          have x1 := hcs k hkl 1 (by omega)
          have x2 := hcs k hkl 2 (by omega)
          have y0 := hcs i hlt 0 (by omega)
          have y1 := hcs i hlt 1 (by omega)
          have y2 := hcs i hlt 2 (by omega)
          simp only [ePt, List.getElem?_cons_zero, List.getElem?_cons_succ, Nat.add_zero] at x0 x1 x2 y0 y1 y2
          have HO2 := Lib.hid (HO.out l[k] l[i])
          have EA := Lib.hid ea
          clear hcs ea
          generalize hbe : btn (l.take k) l[i] = be at *
          clear hbe
          generalize l[k] = q at *
          generalize l[i] = p at *
          obtain ⟨qx, qy, qi⟩ := q
          obtain ⟨px, py, pi⟩ := p
          simp only at x0 x1 x2 y0 y1 y2
          obtain rfl := EA.out
          clear EA
          have kx0 := cell_belowW x0
          have kx1 := cell_belowW x1
          have kx2 := cell_belowW x2
          have ky0 := cell_belowW y0
          have ky1 := cell_belowW y1
          have ky2 := cell_belowW y2
          clear x0 x1 x2 y0 y1 y2
          have hil2 : (i : Int) < (l.length : Int) := by omega
          have hkl2 : (k : Int) < (l.length : Int) := by omega
          cases be
          · simp only [Bool.false_or] at BK
            go_wp2
            refine wp_region_below (by kernel_rfl) (by kernel_rfl) ?_
            repeat (quiet_step ((go_at_call 44; exact calls_below (HO2.out _))))
            refine wpQuiet_nil ?_
            intro w5 hw'
            have hb6 : Below wr.heap.size wr w5 := by obtain ⟨p, rfl⟩ := hw'; exact p.h
            clear hw'
            go_wp2
            go_roundw
            case rel => exact ⟨k + 1, by go_num, by omega, by rw [BK.out], hb.trans (hb6.mono hb.size)⟩
            case measure => simp [intOf]; omega
          · simp only [Bool.true_or] at BK
            go_wp2
            refine wp_region_below (by kernel_rfl) (by kernel_rfl) ?_
            repeat (quiet_step ((go_at_call 44; exact calls_below (HO2.out _))))
            refine wpQuiet_nil ?_
            intro w5 hw'
            have hb6 : Below wr.heap.size wr w5 := by obtain ⟨p, rfl⟩ := hw'; exact p.h
            clear hw'
            go_wp2
            go_roundw
            case rel => exact ⟨k + 1, by go_num, by omega, by rw [BK.out], hb.trans (hb6.mono hb.size)⟩
            case measure => simp [intOf]; omega
        · obtain rfl : k = l.length := by omega
          rw [List.take_length]
          have B2 := HB0.out.trans (hb.mono hs0)
          have HOW2 := Lib.hid (ownsRow_below HOW.out hb)
          clear HB0 HOW hb
          cases hbt : btn l l[i]
          · have HIN := Lib.hid (fun (k : Nat) (hk : k ≤ O.length) hd hs => skyPre_ins HND.out HP.out hlt hbt (k := k) hk hd hs)
            obtain ⟨b, off, ea, hbl, hcs⟩ := HR.out.get (by omega)
            have y0 := hcs i hlt 0 (by omega)
            have y1 := hcs i hlt 1 (by omega)
            have y2 := hcs i hlt 2 (by omega)
            simp only [ePt, List.getElem?_cons_zero, List.getElem?_cons_succ, Nat.add_zero] at y0 y1 y2
            have EA := Lib.hid ea
            clear hcs ea HP hbt
            generalize l[i] = p at *
            obtain ⟨px, py, pi⟩ := p
            simp only at y0 y1 y2
            obtain rfl := EA.out
            clear EA
            have YF : Hid (∀ W, Below w.heap.size w W → W.cell? ⟨b, off + i * 3, none⟩ = some (.int .i64 px) ∧ W.cell? ⟨b, off + i * 3 + 1, none⟩ = some (.int .i64 py) ∧ W.cell? ⟨b, off + i * 3 + 2, none⟩ = some (.int .u32 pi)) := fun W hW => ⟨(hW.cell (p := ⟨b, off + i * 3, none⟩) hbl).trans y0, (hW.cell (p := ⟨b, off + i * 3 + 1, none⟩) hbl).trans y1, (hW.cell (p := ⟨b, off + i * 3 + 2, none⟩) hbl).trans y2⟩
            clear y0 y1 y2
            obtain ⟨z0, z1, z2⟩ := YF.out wr B2
            have hil2 : (i : Int) < (l.length : Int) := by omega
            have hws := B2.size
            go_wp2_with (at_builtin; refine wp_append1 elPoint w.heap.size HOW2.out [.int .i64 px, .int .i64 py, .int .u32 pi] rfl (by simp [Value.oneCell']) rfl _ _ rfl rfl _ rfl (by unfold maxLen; omega) (by omega) (by omega) ?_; intro v' w6 hown' hg)
            have b6 := below_grown B2 HOW2.out hg hws (Nat.le_refl _)
            obtain ⟨g, cv', rfl, hg1, hg2, hg3, hg4⟩ := ownRow_at hown' (by omega)
            have HO6 : Hid (w6.ownsRow w.heap.size 33 3 (.slice (some ⟨g, 0, none⟩) (O.length + 1) cv') (O.length + 1) ((insA O O.length (px, py, pi)).flatMap ePt)) := by
              show w6.ownsRow _ _ _ _ _ _
              rw [insA_top, List.flatMap_append, List.flatMap_singleton]
              exact hown'
            have B6 := Lib.hid b6
            clear hown' hg HOW2 B2 b6 z0 z1 z2
            unfold maxLen at hg4
            go_wp2
            go_loopw [7] (fun kv wr => ∃ (k : Nat) (z : Pt), kv = .int .i64 k ∧ k ≤ O.length ∧ Hid (wr.ownsRow w.heap.size 33 3 (.slice (some ⟨g, 0, none⟩) (O.length + 1) cv') (O.length + 1) ((insA O k z).flatMap ePt)) ∧ Hid (∀ y ∈ O.drop k, ltX (px, py, pi) y) ∧ Below w.heap.size w wr) (fun kv _ => (intOf kv).toNat)
            case atStart => exact ⟨O.length, (px, py, pi), rfl, Nat.le_refl _, HO6, by intro y hy; rw [List.drop_length] at hy; simp at hy, B6.out⟩
            case round =>
              clear B6 HO6
              obtain ⟨k, z, rfl, hk, HO7, HD, hb⟩ := hrel
              rcases Nat.eq_zero_or_pos k with hk0 | hk0
              · subst hk0
                have HP2 := Lib.hid (HIN.out 0 hk HD.out (.inl rfl))
                have hd : decide ((0 : Int) < 0) = false := by decide
                clear HIN HD
                go_wp2
                refine wp_region_below (by kernel_rfl) (by kernel_rfl) ?_
                repeat (quiet_step (fail))
                refine wpQuiet_nil ?_
                intro w5 hw'
                have hb5 : Below wr.heap.size wr w5 := by obtain ⟨p, rfl⟩ := hw'; exact p.h
                clear hw'
                have HO8 := Lib.hid (ownsRow_below HO7.out hb5)
                have B5 := hb.trans (hb5.mono hb.size)
                have hkl3 : 0 < (insA O 0 z).length := by rw [insA_len _ _ _ hk]; omega
                obtain ⟨c0, c1, c2⟩ := ptsCell HO8.out 0 hkl3
                have f0 := HO8.out.frozenAt (0 * 3)
                have f1 := HO8.out.frozenAt (0 * 3 + 1)
                have f2 := HO8.out.frozenAt (0 * 3 + 2)
                have HST2 : Hid ((((w5.setCell ⟨g, 0 * 3, none⟩ (.int .i64 px)).setCell ⟨g, 0 * 3 + 1, none⟩ (.int .i64 py)).setCell ⟨g, 0 * 3 + 2, none⟩ (.int .u32 pi)).ownsRow w.heap.size 33 3 (.slice (some ⟨g, 0, none⟩) (O.length + 1) cv') (O.length + 1) ((insA O 0 (px, py, pi)).flatMap ePt)) := by
                  show World.ownsRow _ _ _ _ _ _ _
                  rw [← insA_set O 0 z (px, py, pi) hk]
                  exact ptsStore HO8.out 0 hkl3 (px, py, pi)
                have HL : Hid ((insA O 0 (px, py, pi)).length = O.length + 1) := by show _ = _; rw [insA_len _ _ _ hk]
                obtain ⟨y0, y1, y2⟩ := YF.out w5 B5
                have BS := Lib.hid (((B5.setCell (p := ⟨g, 0 * 3, none⟩) hg1 (.int .i64 px)).setCell (p := ⟨g, 0 * 3 + 1, none⟩) hg1 (.int .i64 py)).setCell (p := ⟨g, 0 * 3 + 2, none⟩) hg1 (.int .u32 pi))
                clear hb5 hb HO7 B5
                go_wp2
                go_roundw
                case rel => exact ⟨i + 1, insA O 0 (px, py, pi), some ⟨g, 0, none⟩, cv', by go_num, by omega, by rw [HL.out], by rw [HL.out]; exact HST2, HP2, by rw [HL.out]; omega, BS.out⟩
                case measure => simp [intOf]; omega
              · obtain ⟨m, rfl⟩ : ∃ m, k = m + 1 := ⟨k - 1, by omega⟩
                have hmO : m < O.length := by omega
                have HIN2 := Lib.hid (fun h => HIN.out (m + 1) hk HD.out (.inr ⟨by simpa using hmO, by simpa using h⟩))
                have hdp := drop_pred O (m + 1) hk0 hk
                simp only [Nat.add_sub_cancel] at hdp
                have HD2 : Hid (ltX (px, py, pi) O[m] → ∀ y ∈ O.drop m, ltX (px, py, pi) y) := by
                  intro hx y hy
                  rw [hdp] at hy
                  rcases List.mem_cons.1 hy with rfl | hy
                  · exact hx
                  · exact HD.out y hy
                have hml : m < (insA O (m + 1) z).length := by rw [insA_len _ _ _ hk]; omega
                obtain ⟨x0, x1, x2⟩ := ptsCell HO7.out m hml
                have hpv := insA_prev O (m + 1) z hk0 hk
                simp only [Nat.add_sub_cancel] at hpv
                have HST : Hid (∀ W : World, W.ownsRow w.heap.size 33 3 (.slice (some ⟨g, 0, none⟩) (O.length + 1) cv') (O.length + 1) ((insA O (m + 1) z).flatMap ePt) → (((W.setCell ⟨g, (m + 1) * 3, none⟩ (.int .i64 O[m].1)).setCell ⟨g, (m + 1) * 3 + 1, none⟩ (.int .i64 O[m].2.1)).setCell ⟨g, (m + 1) * 3 + 2, none⟩ (.int .u32 O[m].2.2)).ownsRow w.heap.size 33 3 (.slice (some ⟨g, 0, none⟩) (O.length + 1) cv') (O.length + 1) ((insA O m O[m]).flatMap ePt)) := by
                  intro W hW
                  have e1 := insA_shift O (m + 1) z hk0 hk
                  simp only [Nat.add_sub_cancel] at e1
                  rw [← e1]
                  exact ptsStore hW (m + 1) (by rw [insA_len _ _ _ hk]; omega) O[m]
                rw [hpv] at x0 x1 x2
                clear hpv hdp hml HIN HD
                generalize O[m] = q at *
                obtain ⟨qx, qy, qi⟩ := q
                simp only at x0 x1 x2
                obtain ⟨y0, y1, y2⟩ := YF.out wr hb
                have X0 := cell_belowW x0
                have X1 := cell_belowW x1
                have X2 := cell_belowW x2
                have Y0 := cell_belowW y0
                have Y1 := cell_belowW y1
                have Y2 := cell_belowW y2
                have V1 : IntKind.i64.wrap (m : Int) = (m : Int) := IntWalk.i64_in _ (by omega)
                have g1 : (m : Int) < (O.length : Int) + 1 := by omega
                have g2 : (m : Int) ≤ (O.length : Int) := by omega
                have g3 : (m : Int) + 1 < (O.length : Int) + 1 := by omega
                have g4 : (m : Int) + 1 ≤ (O.length : Int) := by omega
                have g5 : (m : Int) < (O.length : Int) := by omega
                have k0 : decide ((0 : Int) < ((m + 1 : Nat) : Int)) = true := by simp
                by_cases hlt2 : ltX (px, py, pi) (qx, qy, qi)
                · have D2 := Lib.hid (HD2.out hlt2)
                  clear HD2 HIN2
                  rcases hlt2 with hc1 | ⟨hc1, hc2⟩
                  · have d1 : decide (px < qx) = true := by simp only [decide_eq_true_eq]; exact hc1
                    go_wp2
                    refine wp_region_below (by kernel_rfl) (by kernel_rfl) ?_
                    repeat (quiet_step (fail))
                    refine wpQuiet_nil ?_
                    intro w5 hw'
                    have hb5 : Below wr.heap.size wr w5 := by obtain ⟨p, rfl⟩ := hw'; exact p.h
                    clear hw'
                    have HO8 := Lib.hid (ownsRow_below HO7.out hb5)
                    have B5 := hb.trans (hb5.mono hb.size)
                    have hkl3 : (m + 1) < (insA O (m + 1) z).length := by rw [insA_len _ _ _ hk]; omega
                    obtain ⟨c0, c1, c2⟩ := ptsCell HO8.out (m + 1) hkl3
                    have f0 := HO8.out.frozenAt ((m + 1) * 3)
                    have f1 := HO8.out.frozenAt ((m + 1) * 3 + 1)
                    have f2 := HO8.out.frozenAt ((m + 1) * 3 + 2)
                    have HST2 := Lib.hid (HST.out w5 HO8.out)
                    have e0 := (hb5.cell (p := ⟨g, m * 3, none⟩) (World.block_lt_of_cell? _ _ x0)).trans x0
                    have e1 := (hb5.cell (p := ⟨g, m * 3 + 1, none⟩) (World.block_lt_of_cell? _ _ x1)).trans x1
                    have e2 := (hb5.cell (p := ⟨g, m * 3 + 2, none⟩) (World.block_lt_of_cell? _ _ x2)).trans x2
                    clear x0 x1 x2 y0 y1 y2 X0 X1 X2 Y0 Y1 Y2
                    have BS := Lib.hid (((B5.setCell (p := ⟨g, (m + 1) * 3, none⟩) hg1 (.int .i64 qx)).setCell (p := ⟨g, (m + 1) * 3 + 1, none⟩) hg1 (.int .i64 qy)).setCell (p := ⟨g, (m + 1) * 3 + 2, none⟩) hg1 (.int .u32 qi))
                    clear hb5 hb HO7 B5
                    go_wp2
                    go_roundw
                    case rel => exact ⟨m, (qx, qy, qi), by go_num, by omega, HST2, D2, BS.out⟩
                    case measure => simp [intOf]
                  · have d1 : decide (px < qx) = false := by simp only [decide_eq_false_iff_not]; simp only at hc1; omega
                    have d2 : (qx == px) = true := by simp only [beq_iff_eq]; simp only at hc1; omega
                    have d3 : decide (pi < qi) = true := by simp only [decide_eq_true_eq]; exact hc2
                    clear hc1 hc2
                    go_wp2
                    refine wp_region_below (by kernel_rfl) (by kernel_rfl) ?_
                    repeat (quiet_step (fail))
                    refine wpQuiet_nil ?_
                    intro w5 hw'
                    have hb5 : Below wr.heap.size wr w5 := by obtain ⟨p, rfl⟩ := hw'; exact p.h
                    clear hw'
                    have HO8 := Lib.hid (ownsRow_below HO7.out hb5)
                    have B5 := hb.trans (hb5.mono hb.size)
                    have hkl3 : (m + 1) < (insA O (m + 1) z).length := by rw [insA_len _ _ _ hk]; omega
                    obtain ⟨c0, c1, c2⟩ := ptsCell HO8.out (m + 1) hkl3
                    have f0 := HO8.out.frozenAt ((m + 1) * 3)
                    have f1 := HO8.out.frozenAt ((m + 1) * 3 + 1)
                    have f2 := HO8.out.frozenAt ((m + 1) * 3 + 2)
                    have HST2 := Lib.hid (HST.out w5 HO8.out)
                    have e0 := (hb5.cell (p := ⟨g, m * 3, none⟩) (World.block_lt_of_cell? _ _ x0)).trans x0
                    have e1 := (hb5.cell (p := ⟨g, m * 3 + 1, none⟩) (World.block_lt_of_cell? _ _ x1)).trans x1
                    have e2 := (hb5.cell (p := ⟨g, m * 3 + 2, none⟩) (World.block_lt_of_cell? _ _ x2)).trans x2
                    clear x0 x1 x2 y0 y1 y2 X0 X1 X2 Y0 Y1 Y2
                    have BS := Lib.hid (((B5.setCell (p := ⟨g, (m + 1) * 3, none⟩) hg1 (.int .i64 qx)).setCell (p := ⟨g, (m + 1) * 3 + 1, none⟩) hg1 (.int .i64 qy)).setCell (p := ⟨g, (m + 1) * 3 + 2, none⟩) hg1 (.int .u32 qi))
                    clear hb5 hb HO7 B5
                    go_wp2
                    go_roundw
                    case rel => exact ⟨m, (qx, qy, qi), by go_num, by omega, HST2, D2, BS.out⟩
                    case measure => simp [intOf]
                · have HP2 := Lib.hid (HIN2.out hlt2)
                  clear HD2 HIN2
                  have d1 : decide (px < qx) = false := by simp only [decide_eq_false_iff_not]; exact fun h => hlt2 (.inl h)
                  by_cases hc1 : qx = px
                  · have d2 : (qx == px) = true := by simp [hc1]
                    have d3 : decide (pi < qi) = false := by simp only [decide_eq_false_iff_not]; exact fun h => hlt2 (.inr ⟨hc1.symm, h⟩)
                    clear hc1
                    go_wp2
                    refine wp_region_below (by kernel_rfl) (by kernel_rfl) ?_
                    repeat (quiet_step (fail))
                    refine wpQuiet_nil ?_
                    intro w5 hw'
                    have hb5 : Below wr.heap.size wr w5 := by obtain ⟨p, rfl⟩ := hw'; exact p.h
                    clear hw'
                    have HO8 := Lib.hid (ownsRow_below HO7.out hb5)
                    have B5 := hb.trans (hb5.mono hb.size)
                    have hkl3 : (m + 1) < (insA O (m + 1) z).length := by rw [insA_len _ _ _ hk]; omega
                    obtain ⟨c0, c1, c2⟩ := ptsCell HO8.out (m + 1) hkl3
                    have f0 := HO8.out.frozenAt ((m + 1) * 3)
                    have f1 := HO8.out.frozenAt ((m + 1) * 3 + 1)
                    have f2 := HO8.out.frozenAt ((m + 1) * 3 + 2)
                    have HST2 : Hid ((((w5.setCell ⟨g, (m + 1) * 3, none⟩ (.int .i64 px)).setCell ⟨g, (m + 1) * 3 + 1, none⟩ (.int .i64 py)).setCell ⟨g, (m + 1) * 3 + 2, none⟩ (.int .u32 pi)).ownsRow w.heap.size 33 3 (.slice (some ⟨g, 0, none⟩) (O.length + 1) cv') (O.length + 1) ((insA O (m + 1) (px, py, pi)).flatMap ePt)) := by
                      show World.ownsRow _ _ _ _ _ _ _
                      rw [← insA_set O (m + 1) z (px, py, pi) hk]
                      exact ptsStore HO8.out (m + 1) hkl3 (px, py, pi)
                    have HL : Hid ((insA O (m + 1) (px, py, pi)).length = O.length + 1) := by show _ = _; rw [insA_len _ _ _ hk]
                    clear x0 x1 x2 y0 y1 y2 X0 X1 X2 Y0 Y1 Y2
                    obtain ⟨y0, y1, y2⟩ := YF.out w5 B5
                    have BS := Lib.hid (((B5.setCell (p := ⟨g, (m + 1) * 3, none⟩) hg1 (.int .i64 px)).setCell (p := ⟨g, (m + 1) * 3 + 1, none⟩) hg1 (.int .i64 py)).setCell (p := ⟨g, (m + 1) * 3 + 2, none⟩) hg1 (.int .u32 pi))
                    clear hb5 hb HO7 B5
                    go_wp2
                    go_roundw
                    case rel => exact ⟨i + 1, insA O (m + 1) (px, py, pi), some ⟨g, 0, none⟩, cv', by go_num, by omega, by rw [HL.out], by rw [HL.out]; exact HST2, HP2, by rw [HL.out]; omega, BS.out⟩
                    case measure => simp [intOf]; omega
                  · have d2 : (qx == px) = false := by simp [hc1]
                    go_wp2
                    refine wp_region_below (by kernel_rfl) (by kernel_rfl) ?_
                    repeat (quiet_step (fail))
                    refine wpQuiet_nil ?_
                    intro w5 hw'
                    have hb5 : Below wr.heap.size wr w5 := by obtain ⟨p, rfl⟩ := hw'; exact p.h
                    clear hw'
                    have HO8 := Lib.hid (ownsRow_below HO7.out hb5)
                    have B5 := hb.trans (hb5.mono hb.size)
                    have hkl3 : (m + 1) < (insA O (m + 1) z).length := by rw [insA_len _ _ _ hk]; omega
                    obtain ⟨c0, c1, c2⟩ := ptsCell HO8.out (m + 1) hkl3
                    have f0 := HO8.out.frozenAt ((m + 1) * 3)
                    have f1 := HO8.out.frozenAt ((m + 1) * 3 + 1)
                    have f2 := HO8.out.frozenAt ((m + 1) * 3 + 2)
                    have HST2 : Hid ((((w5.setCell ⟨g, (m + 1) * 3, none⟩ (.int .i64 px)).setCell ⟨g, (m + 1) * 3 + 1, none⟩ (.int .i64 py)).setCell ⟨g, (m + 1) * 3 + 2, none⟩ (.int .u32 pi)).ownsRow w.heap.size 33 3 (.slice (some ⟨g, 0, none⟩) (O.length + 1) cv') (O.length + 1) ((insA O (m + 1) (px, py, pi)).flatMap ePt)) := by
                      show World.ownsRow _ _ _ _ _ _ _
                      rw [← insA_set O (m + 1) z (px, py, pi) hk]
                      exact ptsStore HO8.out (m + 1) hkl3 (px, py, pi)
                    have HL : Hid ((insA O (m + 1) (px, py, pi)).length = O.length + 1) := by show _ = _; rw [insA_len _ _ _ hk]
                    clear x0 x1 x2 y0 y1 y2 X0 X1 X2 Y0 Y1 Y2
                    obtain ⟨y0, y1, y2⟩ := YF.out w5 B5
                    have BS := Lib.hid (((B5.setCell (p := ⟨g, (m + 1) * 3, none⟩) hg1 (.int .i64 px)).setCell (p := ⟨g, (m + 1) * 3 + 1, none⟩) hg1 (.int .i64 py)).setCell (p := ⟨g, (m + 1) * 3 + 2, none⟩) hg1 (.int .u32 pi))
                    clear hb5 hb HO7 B5
                    go_wp2
                    go_roundw
                    case rel => exact ⟨i + 1, insA O (m + 1) (px, py, pi), some ⟨g, 0, none⟩, cv', by go_num, by omega, by rw [HL.out], by rw [HL.out]; exact HST2, HP2, by rw [HL.out]; omega, BS.out⟩
                    case measure => simp [intOf]; omega
          · have HP2 := Lib.hid (skyPre_skip HP.out hlt hbt)
            go_wp2
            go_roundw
            case rel => exact ⟨i + 1, O, ao, xo, by go_num, by omega, rfl, HOW2, HP2, by omega, B2⟩
            case measure => simp [intOf]; omega
    · obtain rfl : i = l.length := by omega
      have e1 := skyPre_end HND.out HP.out
      subst e1
      go_wp2
      go_ret
      exact ⟨_, rfl, HOW.out, hb⟩

end Go.Proofs.Ytpebefcmloablaa
