/- gridironref14: lower, Lows. -/
import Derived.Test.YtggfdlanobndjaaGreatL14p
import Derived.Test.YtggfdlanobndjaaGreatQ6
import Derived.Deep.CutBlock
import Derived.Deep.CutRange
namespace Go.Proofs.YtggfdlanobndjaaGreat
open Go.RowKit Go.Sort Go.Shelf Go.Lib Go.Maps
attribute [local irreducible] wpQuiet
attribute [local go_sem] Oper.still1
set_option linter.unusedSimpArgs false
set_option linter.unusedVariables false

set_option maxRecDepth 100000 in
set_option maxHeartbeats 1000000 in
theorem ref14_lower (p q : Pt) (w : World) : Calls Tryz.prog 98 #[vPt p.1 p.2.1 p.2.2, vPt q.1 q.2.1 q.2.2] w fun e w' => e = .returned (.bool (decide (ltY p q))) ∧ Below w.heap.size w w' := by
  obtain ⟨px, py, pi⟩ := p
  obtain ⟨qx, qy, qi⟩ := q
  have HB : Hid (∀ o o2, Below w.heap.size w ((w.alloc o).alloc o2)) := fun o o2 => ((Below.refl _ _).alloc (Nat.le_refl _) o).alloc (by simp) o2
  generalize hr : decide (ltY (px, py, pi) (qx, qy, qi)) = r
  unfold ltY at hr
  simp only at hr ⊢
  by_cases h1 : py < qy
  · have d1 : decide (py < qy) = true := by simp [h1]
    have hr' : r = true := by rw [← hr]; simp [h1]
    subst hr'
    clear hr h1
    go_enter Tryz.func98, Tryz.ntmps98
    go_wp2
    go_ret
    exact ⟨rfl, HB.out _ _⟩
  · have d1 : decide (py < qy) = false := by simp [h1]
    by_cases h2 : py = qy
    · have d2 : (py == qy) = true := by simp [h2]
      have d3 : decide (py = qy) = true := by simp [h2]
      have hr' : r = decide (pi < qi) := by rw [← hr]; simp [h2]
      subst hr'
      clear hr h1 h2
      go_enter Tryz.func98, Tryz.ntmps98
      go_wp2
      go_ret
      exact ⟨rfl, HB.out _ _⟩
    · have d2 : (py == qy) = false := by simp [h2]
      have d3 : decide (py = qy) = false := by simp [h2]
      have hr' : r = false := by rw [← hr]; simp [h1, h2]
      subst hr'
      clear hr h1 h2
      go_enter Tryz.func98, Tryz.ntmps98
      go_wp2
      go_ret
      exact ⟨rfl, HB.out _ _⟩

theorem ent_r14lower : ∀ args w, (callFunc 98 args).run Tryz.prog w = .ok (.enter 98 args) w := enters_of Tryz.func98 (by kernel_rfl) rfl

theorem flat_set3 : ∀ (L : List Pt) (j : Nat) (p : Pt), (((L.flatMap ePt).set (j * 3) (.int .i64 p.1)).set (j * 3 + 1) (.int .i64 p.2.1)).set (j * 3 + 2) (.int .u32 p.2.2) = (L.set j p).flatMap ePt
  | [], j, p => by simp
  | q :: L, 0, p => by simp [ePt]
  | q :: L, j + 1, p => by
    have ih := flat_set3 L j p
    rw [List.set_cons_succ, List.flatMap_cons, List.flatMap_cons, ← ih]
    simp only [ePt, List.cons_append, List.nil_append, show (j + 1) * 3 = j * 3 + 1 + 1 + 1 by omega, List.set_cons_succ, show j * 3 + 1 + 1 + 1 + 1 = (j * 3 + 1) + 1 + 1 + 1 by omega, show j * 3 + 1 + 1 + 1 + 2 = (j * 3 + 2) + 1 + 1 + 1 by omega]
/-- a point is put into a row of points -/
theorem row_put3 {w : World} {base g c j n : Nat} {L : List Pt} (h : w.ownsRow base 34 3 (.slice (some ⟨g, 0, none⟩) n c) n (L.flatMap ePt)) (p : Pt) :
    (((w.setCell ⟨g, j * 3, none⟩ (.int .i64 p.1)).setCell ⟨g, j * 3 + 1, none⟩ (.int .i64 p.2.1)).setCell ⟨g, j * 3 + 2, none⟩ (.int .u32 p.2.2)).ownsRow base 34 3 (.slice (some ⟨g, 0, none⟩) n c) n ((L.set j p).flatMap ePt) := by
  rw [← flat_set3]
  exact ((((h.stored (j * 3) (.int .i64 p.1)).1).stored (j * 3 + 1) (.int .i64 p.2.1)).1.stored (j * 3 + 2) (.int .u32 p.2.2)).1
theorem flat_at {L : List Pt} {j : Nat} (hj : j < L.length) : (L.flatMap ePt)[j * 3]? = some (.int .i64 L[j].1) ∧ (L.flatMap ePt)[j * 3 + 1]? = some (.int .i64 L[j].2.1) ∧ (L.flatMap ePt)[j * 3 + 2]? = some (.int .u32 L[j].2.2) := by
  induction L generalizing j with
  | nil => simp at hj
  | cons q L ih =>
    cases j with
    | zero => simp [ePt]
    | succ j =>
      have := ih (j := j) (by simpa using hj)
      simp only [List.flatMap_cons, ePt, List.cons_append, List.nil_append, show (j + 1) * 3 = j * 3 + 1 + 1 + 1 by omega, List.getElem?_cons_succ, show j * 3 + 1 + 1 + 1 + 1 = (j * 3 + 1) + 1 + 1 + 1 by omega, show j * 3 + 1 + 1 + 1 + 2 = (j * 3 + 2) + 1 + 1 + 1 by omega, List.getElem_cons_succ]
      exact this

set_option maxRecDepth 100000 in
set_option maxHeartbeats 8000000 in
theorem ref14_lows (a : Option Addr) (l : List Pt) (n c : Nat) (w : World) (hn : l.length = n) (h : RdK ePt 3 w a l) (hl : n ≤ 100000) (hu : (ids l).Nodup) (x1 x2 K : Int) :
    Calls Tryz.prog 79 #[.slice a n c, .int .i64 x1, .int .i64 x2, .int .i64 K] w fun e w' => (∃ ad c' L, L = (lws l x1 x2).take K.toNat ∧ e = .returned (.slice ad L.length c') ∧ RdK ePt 3 w' ad L) ∧ Below w.heap.size w w' := by
  subst hn
  have H := Lib.hid h
  have HU := Lib.hid hu
  clear h hu
  go_enter Tryz.func79, Tryz.ntmps79
  go_wp2
  go_loopw [9, 10] (fun v iv wr => ∃ (i : Nat) (S : List Pt), iv = .int .i64 i ∧ i ≤ l.length ∧ S.length ≤ i ∧ Hid (S = lws (l.take i) x1 x2) ∧ Hid (wr.ownsRow w.heap.size 34 3 v S.length (S.flatMap ePt)) ∧ Below w.heap.size w wr) (fun _ iv _ => l.length - (intOf iv).toNat)
  case atStart => exact ⟨0, [], rfl, Nat.zero_le _, Nat.le_refl _, by simp [Hid, lws, srtY], World.ownsRow_nil _ _ _ _, Below.refl _ _⟩
  case round =>
    obtain ⟨i, S, rfl, hi, hSi, HS, HO, hb⟩ := hrel
    by_cases hlt : i < l.length
    · obtain ⟨av, cv, rfl⟩ := rowV HO.out
      obtain ⟨b, off, ea, hbl, hcs⟩ := H.out.get (by omega)
      have hx0 := hcs i hlt 0 (by omega)
      have hx1 := hcs i hlt 1 (by omega)
      have hx2 := hcs i hlt 2 (by omega)
      simp only [ePt, List.getElem?_cons_zero, List.getElem?_cons_succ, Nat.add_zero] at hx0 hx1 hx2
      have HPUT : Hid (inX x1 x2 l[i] = true → ∀ k, k ≤ S.length → (∀ y ∈ S.drop k, ltY l[i] y) → (k = 0 ∨ ∃ h : k - 1 < S.length, ¬ ltY l[i] S[k - 1]) → insA S k l[i] = lws (l.take (i + 1)) x1 x2) := fun hin k h1 h2 h3 => lws_put HU.out hlt hin S HS.out h1 h2 h3
      have HSK : Hid (inX x1 x2 l[i] = false → S = lws (l.take (i + 1)) x1 x2) := fun hin => by rw [lws_skip hlt hin]; exact HS.out
      have EA := Lib.hid ea
      clear hcs HS ea
      generalize l[i] = p at *
      obtain ⟨px, py, pi⟩ := p
      simp only at hx0 hx1 hx2
      obtain rfl := EA.out
      clear EA
      have hsw := hb.size
      have k0 := (hb.cell (p := ⟨b, off + i * 3, none⟩) hbl).trans hx0
      have k1 := (hb.cell (p := ⟨b, off + i * 3 + 1, none⟩) hbl).trans hx1
      have k2 := (hb.cell (p := ⟨b, off + i * 3 + 2, none⟩) hbl).trans hx2
      by_cases hin : x1 ≤ px ∧ px ≤ x2
      · have q1 : decide (px < x1) = false := by simp; omega
        have q2 : decide (x2 < px) = false := by simp; omega
        have HP := Lib.hid (HPUT.out (by unfold inX; simp [hin]))
        clear HPUT HSK hin
        go_wp2_with (at_builtin; refine wp_append1 elPt10 w.heap.size HO.out [.int .i64 px, .int .i64 py, .int .u32 pi] rfl (by simp [Value.oneCell']) rfl _ _ rfl rfl _ rfl (by unfold maxLen; omega) (by omega) (by omega) ?_; intro v' w6 hown' hg; have b6 := below_grown hb HO.out hg hsw (Nat.le_refl _); obtain ⟨g, cv', rfl, hg1, hg2, hg3, hg4⟩ := ownRow_at hown' (by omega))
        have HO6 : Hid (w6.ownsRow w.heap.size 34 3 (.slice (some ⟨g, 0, none⟩) (S.length + 1) cv') (S.length + 1) ((insA S S.length ((px, py, pi) : Pt)).flatMap ePt)) := by
          have e1 := insA_top S ((px, py, pi) : Pt)
          show w6.ownsRow _ _ _ _ _ _
          rw [e1, List.flatMap_append]
          exact hown'
        clear hown' hg HO hb k0 k1 k2
        unfold maxLen at hg4
        go_loopw [11] (fun jv wr => ∃ (j : Nat) (z : Pt), jv = .int .i64 j ∧ j ≤ S.length ∧ Hid (∀ y ∈ S.drop j, ltY (px, py, pi) y) ∧ Hid (wr.ownsRow w.heap.size 34 3 (.slice (some ⟨g, 0, none⟩) (S.length + 1) cv') (S.length + 1) ((insA S j z).flatMap ePt)) ∧ Below w.heap.size w wr) (fun jv _ => (intOf jv).toNat)
        case atStart => exact ⟨S.length, (px, py, pi), by go_num, Nat.le_refl _, by simp [Hid], HO6, b6⟩
        case round =>
          clear b6 HO6
          obtain ⟨j, z, rfl, hj2, HD, HO, hb⟩ := hrel
          have hil := insA_len S j z hj2
          have k0 := (hb.cell (p := ⟨b, off + i * 3, none⟩) hbl).trans hx0
          have k1 := (hb.cell (p := ⟨b, off + i * 3 + 1, none⟩) hbl).trans hx1
          have k2 := (hb.cell (p := ⟨b, off + i * 3 + 2, none⟩) hbl).trans hx2
          have hgl := (HO.out.lt g rfl).2
          obtain ⟨c0, c1, c2⟩ := flat_at (L := insA S j z) (j := j) (by omega)
          rw [insA_get S j z hj2] at c0 c1 c2
          have m0 := (HO.out.cellAt (j * 3) (by omega)).trans c0
          have m1 := (HO.out.cellAt (j * 3 + 1) (by omega)).trans c1
          have m2 := (HO.out.cellAt (j * 3 + 2) (by omega)).trans c2
          have f0 := HO.out.frozenAt (j * 3)
          have f1 := HO.out.frozenAt (j * 3 + 1)
          have f2 := HO.out.frozenAt (j * 3 + 2)
          have HSX : Hid ((insA S j z).set j (px, py, pi) = insA S j (px, py, pi)) := insA_set S j z _ hj2
          have e9 : IntKind.i64.wrap ((j : Int) - 1) = (j : Int) - 1 := by rw [IntKind.wrap_i64]; omega
          by_cases hj0 : 0 < j
          · obtain ⟨d0, d1, d2⟩ := flat_at (L := insA S j z) (j := j - 1) (by omega)
            rw [insA_prev S j z hj0 hj2] at d0 d1 d2
            have p0 := (HO.out.cellAt ((j - 1) * 3) (by omega)).trans d0
            have p1 := (HO.out.cellAt ((j - 1) * 3 + 1) (by omega)).trans d1
            have p2 := (HO.out.cellAt ((j - 1) * 3 + 2) (by omega)).trans d2
            have HSW : Hid ((insA S j z).set j S[j - 1] = insA S (j - 1) S[j - 1]) := insA_shift S j z hj0 hj2
            have HD2 : Hid (ltY (px, py, pi) S[j - 1] → ∀ y ∈ S.drop (j - 1), ltY (px, py, pi) y) := fun hl y hy => by
              rw [drop_pred S j hj0 hj2] at hy
              rcases List.mem_cons.1 hy with h | h
              · rw [h]; exact hl
              · exact HD.out y h
            have HP2 : Hid (¬ ltY (px, py, pi) S[j - 1] → insA S j (px, py, pi) = lws (l.take (i + 1)) x1 x2) := fun hl => HP.out j hj2 HD.out (.inr ⟨by omega, hl⟩)
            have e1 : ((j : Int) - 1).toNat = j - 1 := by omega
            have g0 : (0 : Int) ≤ (j : Int) - 1 := by omega
            have g2 : (j : Int) < (S.length : Int) + 1 := by omega
            have g3 : (j : Int) - 1 < (S.length : Int) + 1 := by omega
            have g4 : j < S.length + 1 := by omega
            have g5 : j - 1 < S.length + 1 := by omega
            have h3 : (j : Int) - 1 ≤ (S.length : Int) := by omega
            have h4 : (j : Int) ≤ (S.length : Int) + 1 := by omega
            have h5 : (1 : Int) ≤ (j : Int) := by omega
            have h6 : j ≤ S.length + 1 := by omega
            have h7 : 1 ≤ j := by omega
            have g8 : decide (0 < j) = true := by simp [hj0]
            have HLW := Lib.hid (fun b : BelowW wr => ref14_lower (px, py, pi) S[j - 1] b.W)
            clear HD d0 d1 d2 c0 c1 c2
            generalize S[j - 1] = y at *
            obtain ⟨yx, yy, yi⟩ := y
            simp only at p0 p1 p2
            generalize hlt9 : decide (ltY (px, py, pi) (yx, yy, yi)) = r9 at *
            have HLT9 := Lib.hid hlt9
            clear hlt9
            have b0 := cell_belowW k0
            have b1 := cell_belowW k1
            have b2 := cell_belowW k2
            have b3 := cell_belowW p0
            have b4 := cell_belowW p1
            have b5 := cell_belowW p2
            go_upto_region 8 with fail
            refine wp_region_below (by kernel_rfl) (by kernel_rfl) ?_
            repeat (quiet_step ((go_at_call 98; exact calls_below (HLW.out _))))
            refine wpQuiet_nil ?_
            intro w7 hw'
            have hb7 : Below wr.heap.size wr w7 := by obtain ⟨b, rfl⟩ := hw'; exact b.h
            clear hw' b0 b1 b2 b3 b4 b5
            have hB7 := Lib.hid (hb.trans (hb7.mono hb.size))
            have HO7 := Lib.hid (ownsRow_below HO.out hb7)
            have hwl : b < wr.heap.size := by omega
            have k0 := (hb7.cell (p := ⟨b, off + i * 3, none⟩) hwl).trans k0
            have k1 := (hb7.cell (p := ⟨b, off + i * 3 + 1, none⟩) hwl).trans k1
            have k2 := (hb7.cell (p := ⟨b, off + i * 3 + 2, none⟩) hwl).trans k2
            have p0 := (hb7.cell (p := ⟨g, (j - 1) * 3, none⟩) hgl).trans p0
            have p1 := (hb7.cell (p := ⟨g, (j - 1) * 3 + 1, none⟩) hgl).trans p1
            have p2 := (hb7.cell (p := ⟨g, (j - 1) * 3 + 2, none⟩) hgl).trans p2
            have m0 := (hb7.cell (p := ⟨g, j * 3, none⟩) hgl).trans m0
            have m1 := (hb7.cell (p := ⟨g, j * 3 + 1, none⟩) hgl).trans m1
            have m2 := (hb7.cell (p := ⟨g, j * 3 + 2, none⟩) hgl).trans m2
            have f0 := HO7.out.frozenAt (j * 3)
            have f1 := HO7.out.frozenAt (j * 3 + 1)
            have f2 := HO7.out.frozenAt (j * 3 + 2)
            clear hb7 HLW
            cases r9 with
            | true =>
              have HD3 := Lib.hid (HD2.out (of_decide_eq_true HLT9.out))
              clear HD2 HP2 HLT9 HSX k0 k1 k2
              go_wp2
              go_roundw
              case rel =>
                refine ⟨j - 1, (yx, yy, yi), by go_num, by omega, HD3, ?_, ((hB7.out.setCell hg1 _).setCell hg1 _).setCell hg1 _⟩
                show World.ownsRow _ _ _ _ _ _ _
                rw [← HSW.out]
                exact row_put3 HO7.out (yx, yy, yi)
              case measure => simp [intOf]; omega
            | false =>
              have HP3 := Lib.hid (HP2.out (of_decide_eq_false HLT9.out))
              clear HD2 HP2 HLT9 HSW p0 p1 p2
              go_wp2
              go_roundw
              case rel =>
                refine ⟨i + 1, insA S j (px, py, pi), by go_num, by omega, by rw [insA_len S j _ hj2]; omega, HP3, ?_, ((hB7.out.setCell hg1 _).setCell hg1 _).setCell hg1 _⟩
                show World.ownsRow _ _ _ _ _ _ _
                rw [← HSX.out, List.length_set, hil]
                exact row_put3 HO7.out (px, py, pi)
              case measure => simp [intOf]; omega
          · obtain rfl : j = 0 := by omega
            have HP3 := Lib.hid (HP.out 0 hj2 HD.out (.inl rfl))
            clear HD c0 c1 c2
            go_wp2
            go_quiet (fail)
            go_wp2
            go_roundw
            case rel =>
              have bd := hb.trans ((Below.drewAny (w := wr) _ nq).mono hb.size)
              refine ⟨i + 1, insA S 0 (px, py, pi), by go_num, by omega, by rw [insA_len S 0 _ hj2]; omega, HP3, ?_, ((bd.setCell hg1 _).setCell hg1 _).setCell hg1 _⟩
              show World.ownsRow _ _ _ _ _ _ _
              rw [← HSX.out, List.length_set, hil]
              exact row_put3 (j := 0) (HO.out.drewAny nq) (px, py, pi)
            case measure => simp [intOf]; omega
      · have HSS := Lib.hid (HSK.out (by unfold inX; simpa using hin))
        by_cases h1 : px < x1
        · have q1 : decide (px < x1) = true := by simp [h1]
          clear HPUT HSK hin h1
          go_wp2
          go_roundw
          case rel => exact ⟨i + 1, S, by go_num, by omega, by omega, HSS, HO, hb⟩
          case measure => simp [intOf]; omega
        · have q1 : decide (px < x1) = false := by simp [h1]
          have q2 : decide (x2 < px) = true := by simp; omega
          clear HPUT HSK hin h1
          go_wp2
          go_roundw
          case rel => exact ⟨i + 1, S, by go_num, by omega, by omega, HSS, HO, hb⟩
          case measure => simp [intOf]; omega
    · obtain rfl : i = l.length := by omega
      have HS2 := HS.out
      rw [List.take_length] at HS2
      have HS3 := Lib.hid HS2
      obtain ⟨av, cv, rfl, -, -, hr⟩ := RdK.of_owns ePt_len (by decide) HO.out
      have hcv : S.length ≤ cv := by
        rcases HO.out.2 with ⟨e9, h9⟩ | ⟨g', cap', cur, e9, h2, h3, h4, -⟩
        · omega
        · injection e9 with _ _ e9; omega
      have HR := Lib.hid hr
      clear HS2 HS HO hr
      by_cases h0 : K < 0
      · have d0 : decide (K < 0) = true := by simp [h0]
        by_cases hs0 : S.length = 0
        · have d1 : decide (0 < S.length) = false := by simp [hs0]
          have HFIN : Hid (S = (lws l x1 x2).take K.toNat) := by
            show _ = _
            rw [← HS3.out, show K.toNat = 0 by omega, List.eq_nil_of_length_eq_zero hs0]
            rfl
          clear h0 hs0
          go_wp2
          go_ret
          exact ⟨⟨_, _, S, HFIN.out, rfl, HR.out⟩, hb⟩
        · have d1 : decide (0 < S.length) = true := by simp; omega
          have HFIN : Hid ([] = (lws l x1 x2).take K.toNat) := by
            show _ = _
            rw [show K.toNat = 0 by omega]
            rfl
          clear h0 hs0
          go_wp2_with (refine wp_sliceK elPt10 HR.out hcv 0 0 (Nat.zero_le _) (Nat.zero_le _) rfl _ _ _ rfl rfl rfl rfl ?_; intro ad' hr'; simp only [Nat.sub_zero, List.drop_zero, List.take_zero] at hr' ⊢)
          go_ret
          exact ⟨⟨_, _, [], HFIN.out, rfl, hr'⟩, hb⟩
      · obtain ⟨m, rfl⟩ : ∃ m : Nat, K = m := ⟨K.toNat, by omega⟩
        have d0 : decide ((m : Int) < 0) = false := by simp
        by_cases hml : m < S.length
        · have d1 : decide (m < S.length) = true := by simp [hml]
          have d2 : decide ((m : Int) < (S.length : Int)) = true := by simp [hml]
          have HFIN : Hid (S.take m = (lws l x1 x2).take ((m : Int)).toNat) := by show _ = _; rw [← HS3.out, Int.toNat_natCast]
          have htl : (S.take m).length = m := by rw [List.length_take]; omega
          have hml2 : m ≤ S.length := by omega
          clear h0 hml
          go_wp2_with (refine wp_sliceK elPt10 HR.out hcv 0 m (Nat.zero_le _) hml2 rfl _ _ _ rfl rfl rfl rfl ?_; intro ad' hr'; simp only [Nat.sub_zero, List.drop_zero] at hr' ⊢)
          go_ret
          exact ⟨⟨_, _, S.take m, HFIN.out, by rw [htl]; rfl, hr'⟩, hb⟩
        · have d1 : decide (m < S.length) = false := by simp; omega
          have d2 : decide ((m : Int) < (S.length : Int)) = false := by simp; omega
          have HFIN : Hid (S = (lws l x1 x2).take ((m : Int)).toNat) := by
            show _ = _
            rw [← HS3.out, Int.toNat_natCast, List.take_of_length_le (by omega)]
          clear h0 hml
          go_wp2
          go_ret
          exact ⟨⟨_, _, S, HFIN.out, rfl, HR.out⟩, hb⟩
end Go.Proofs.YtggfdlanobndjaaGreat
