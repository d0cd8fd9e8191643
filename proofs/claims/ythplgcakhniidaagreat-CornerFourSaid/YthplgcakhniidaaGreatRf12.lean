/- gridironref12: on, Corner, over, Over, Under (printed by gen_rf12.py). -/
import Derived.Test.YthplgcakhniidaaGreatQ7
import Derived.Test.YthplgcakhniidaaGreatCrnP
import Derived.Test.YthplgcakhniidaaGreatQ3
namespace Go.Proofs.YthplgcakhniidaaGreat
open Go.RowKit Go.Maps
attribute [local irreducible] wpQuiet
attribute [local go_sem] Oper.still1
set_option linter.unusedSimpArgs false
set_option linter.unusedVariables false

theorem on_cases (n x : Int) (up : Bool) :
    (onN n x up = true ∧ (n == x) = true) ∨ (onN n x up = up ∧ (n == x) = false ∧ decide (x < n) = true) ∨ (onN n x up = !up ∧ (n == x) = false ∧ decide (x < n) = false) := by
  cases up <;> simp only [onN, if_true, if_false, Bool.false_eq_true, decide_eq_true_eq, decide_eq_false_iff_not, beq_iff_eq, beq_eq_false_iff_ne, Bool.not_false, Bool.not_true] <;> omega

theorem ref12_on (n x : Int) (up : Bool) (w : World) :
    Calls Tryz.prog 97 #[.int .i64 n, .int .i64 x, .bool up] w fun e w' => e = .returned (.bool (onN n x up)) ∧ w' = w := by
  rcases on_cases n x up with ⟨h, d1⟩ | ⟨h, d1, d2⟩ | ⟨h, d1, d2⟩
  all_goals
    rw [h]
    clear h
    cases up <;>
    · go_enter Tryz.func97, Tryz.ntmps97
      go_wp2
      go_ret
      exact ⟨rfl, rfl⟩

theorem ovr_cases (px py pi qx qy qi : Int) :
    (ovr (px, py, pi) (qx, qy, qi) = false ∧ decide (qx ≤ px) = false) ∨ (ovr (px, py, pi) (qx, qy, qi) = false ∧ decide (qx ≤ px) = true ∧ decide (qy ≤ py) = false) ∨
    (ovr (px, py, pi) (qx, qy, qi) = true ∧ decide (qx ≤ px) = true ∧ decide (qy ≤ py) = true ∧ decide (qx < px) = true) ∨
    (ovr (px, py, pi) (qx, qy, qi) = true ∧ decide (qx ≤ px) = true ∧ decide (qy ≤ py) = true ∧ decide (qx < px) = false ∧ decide (qy < py) = true) ∨
    (ovr (px, py, pi) (qx, qy, qi) = false ∧ decide (qx ≤ px) = true ∧ decide (qy ≤ py) = true ∧ decide (qx < px) = false ∧ decide (qy < py) = false) := by
  simp only [ovr_iff, ovr_no, decide_eq_true_eq, decide_eq_false_iff_not]
  omega

set_option maxHeartbeats 4000000 in
theorem ref12_over1 (px py pi qx qy qi : Int) (w : World) :
    Calls Tryz.prog 99 #[vPt px py pi, vPt qx qy qi] w fun e w' => e = .returned (.bool (ovr (px, py, pi) (qx, qy, qi))) ∧ Below w.heap.size w w' := by
  rcases ovr_cases px py pi qx qy qi with ⟨h, d1⟩ | ⟨h, d1, d2⟩ | ⟨h, d1, d2, d3⟩ | ⟨h, d1, d2, d3, d4⟩ | ⟨h, d1, d2, d3, d4⟩
  all_goals
    rw [h]
    clear h
    go_enter Tryz.func99, Tryz.ntmps99
    go_wp2
    go_ret
    exact ⟨rfl, ((Below.refl _ _).alloc (Nat.le_refl _) _).alloc (by simp) _⟩
theorem ent_rover : ∀ args w, (callFunc 99 args).run Tryz.prog w = .ok (.enter 99 args) w := enters_of Tryz.func99 (by kernel_rfl) rfl

set_option maxRecDepth 100000 in
set_option maxHeartbeats 4000000 in
theorem ref12_corner (a : Option Addr) (l : List Pt) (n c : Nat) (w : World) (hn : l.length = n) (h : RdK ePt 3 w a l) (hl : n ≤ 1000000) (x y way : Int) (wx wy b4 : Bool) (d1 : (Int.tmod way 2 == 1) = wx) (d2 : decide (2 ≤ way) = wy) (d4 : decide (way < 4) = b4) :
    Calls Tryz.prog 74 #[.slice a n c, .int .i64 x, .int .i64 y, .int .u8 way] w fun e w' => ∃ v, e = .returned v ∧ w'.ownsRow w.heap.size 32 1 v (hasN l (fun q => b4 && crnF x y wx wy q)).length ((hasN l (fun q => b4 && crnF x y wx wy q)).map (.int .u32)) ∧ Below w.heap.size w w' := by
  subst hn
  have H := Lib.hid h
  clear h
  have SRT := Lib.hid (fun a l n c w => ref8_sorted a l n c w)
  have e1 : hasN l (fun q => b4 && crnF x y wx wy q) = srtI (ids (l.filter (fun q => b4 && crnF x y wx wy q))) := rfl
  rw [e1, srtI_len]
  clear e1
  have ON := Lib.hid (fun n x up W => ref12_on n x up W)
  obtain ⟨w1, ew1⟩ : ∃ w1, w1 = w := ⟨_, rfl⟩
  subst ew1
  have hb1 : Below w1.heap.size w1 w1 := Below.refl _ _
  go_enter Tryz.func74, Tryz.ntmps74
  go_wp2
  go_loopw [9, 10] (fun v iv wr => ∃ (i : Nat), iv = .int .i64 i ∧ i ≤ l.length ∧ Hid (wr.ownsRow w1.heap.size 32 1 v (ids ((l.take i).filter (fun q => b4 && crnF x y wx wy q))).length ((ids ((l.take i).filter (fun q => b4 && crnF x y wx wy q))).map (.int .u32))) ∧ Below w1.heap.size w1 wr) (fun _ iv _ => l.length - (intOf iv).toNat)
  case atStart => exact ⟨0, rfl, Nat.zero_le _, by simp [ids]; exact World.ownsRow_nil _ _ _ _, Below.refl _ _⟩
  case round =>
    obtain ⟨i, rfl, hi, HO, hb⟩ := hrel
    by_cases hlt : i < l.length
    · have hb0 := hb1.trans (hb.mono hb1.size)
      obtain ⟨b, off, ea, hbl, hcs⟩ := (H.out.below hb0).get (by omega)
      have x0 := hcs i hlt 0 (by omega)
      have x1' := hcs i hlt 1 (by omega)
      have x2' := hcs i hlt 2 (by omega)
      simp only [ePt, List.getElem?_cons_zero, List.getElem?_cons_succ, Nat.add_zero] at x0 x1' x2'
      have hlk : (ids ((l.take i).filter (fun q => b4 && crnF x y wx wy q))).length ≤ 1000000 := by
        unfold ids
        rw [List.length_map]
        exact Nat.le_trans (List.length_filter_le _ _) (by rw [List.length_take]; omega)
      have HY : Hid _ := (ids_take_in hlt (fun q => b4 && crnF x y wx wy q)).1
      have HX : Hid _ := (ids_take_in hlt (fun q => b4 && crnF x y wx wy q)).2
      have EA := Lib.hid ea
      clear hcs ea
      generalize l[i] = p at *
      obtain ⟨qx, qy, qi⟩ := p
      simp only at x0 x1' x2'
      obtain rfl := EA.out
      clear EA
      generalize ids ((l.take i).filter (fun q => b4 && crnF x y wx wy q)) = L at *
      have hss := hb.size
      have hkl : (i : Int) < (l.length : Int) := by omega
      have HO2 := Lib.hid HO.out
      have B2 := hb
      cases b4
      · have HF := Lib.hid (HX.out rfl)
        clear HY HX
        go_wp2
        go_roundw
        case rel =>
          refine ⟨i + 1, by go_num, by omega, ?_, B2⟩
          show World.ownsRow _ _ _ _ _ _ _
          rw [HF.out]
          exact HO2.out
        case measure => simp [intOf]; omega
      · rcases Bool.eq_false_or_eq_true (onN qx x wx) with c1 | c1
        · rcases Bool.eq_false_or_eq_true (onN qy y wy) with c2 | c2
          · have HF := Lib.hid (HY.out (by simp [crnF, c1, c2]))
            clear HY HX
            go_wp2_with (first
              | (go_at_call 97; refine (ON.out _ _ _ _).mono ?_; rintro e w2 ⟨rfl, rfl⟩)
              | (at_builtin; refine wp_append1 elU32s w1.heap.size HO2.out [.int .u32 qi] rfl (by simp [Value.oneCell']) rfl _ _ rfl rfl _ rfl (by unfold maxLen; omega) (by omega) hss ?_; intro v' w6 hown' hg; have b6 := below_grown B2 HO2.out hg hss (Nat.le_refl _)))
            go_roundw
            case rel =>
              refine ⟨i + 1, by go_num, by omega, ?_, b6⟩
              show World.ownsRow _ _ _ _ _ _ _
              rw [HF.out, List.map_append, List.length_append]
              exact hown'
            case measure => simp [intOf]; omega
          · have HF := Lib.hid (HX.out (by simp [crnF, c1, c2]))
            clear HY HX
            go_wp2_with (go_at_call 97; refine (ON.out _ _ _ _).mono ?_; rintro e w2 ⟨rfl, rfl⟩)
            go_roundw
            case rel =>
              refine ⟨i + 1, by go_num, by omega, ?_, B2⟩
              show World.ownsRow _ _ _ _ _ _ _
              rw [HF.out]
              exact HO2.out
            case measure => simp [intOf]; omega
        · have HF := Lib.hid (HX.out (by simp [crnF, c1]))
          clear HY HX
          go_wp2_with (go_at_call 97; refine (ON.out _ _ _ _).mono ?_; rintro e w2 ⟨rfl, rfl⟩)
          go_roundw
          case rel =>
            refine ⟨i + 1, by go_num, by omega, ?_, B2⟩
            show World.ownsRow _ _ _ _ _ _ _
            rw [HF.out]
            exact HO2.out
          case measure => simp [intOf]; omega
    · obtain rfl : i = l.length := by omega
      have hb0 := hb1.trans (hb.mono hb1.size)
      have HO2 := HO.out
      rw [List.take_length] at HO2
      have e3 : (ids (l.filter (fun q => b4 && crnF x y wx wy q))).length ≤ 1000000 := by
        unfold ids
        rw [List.length_map]
        exact Nat.le_trans (List.length_filter_le _ _) (by omega)
      obtain ⟨av, cv, rfl, -, -, hr⟩ := Rd.of_owns HO2
      have hc := SRT.out av _ _ cv wr rfl hr e3
      go_wp2_with (go_at_call 98; refine hc.mono ?_; rintro e w9 ⟨v9, rfl, hown9, hb9⟩)
      go_ret
      exact ⟨v9, rfl, rowMono hown9 hb0.size, hb0.trans (hb9.mono hb0.size)⟩

set_option maxRecDepth 100000 in
set_option maxHeartbeats 4000000 in
theorem ref12_Over (a : Option Addr) (l : List Pt) (n c : Nat) (w : World) (hn : l.length = n) (h : RdK ePt 3 w a l) (hl : n ≤ 1000000) (px py pi : Int) :
    Calls Tryz.prog 75 #[.slice a n c, vPt px py pi] w fun e w' => ∃ v, e = .returned v ∧ w'.ownsRow w.heap.size 32 1 v (hasN l (fun q => ovr q (px, py, pi))).length ((hasN l (fun q => ovr q (px, py, pi))).map (.int .u32)) ∧ Below w.heap.size w w' := by
  subst hn
  have H := Lib.hid h
  clear h
  have SRT := Lib.hid (fun a l n c w => ref8_sorted a l n c w)
  have e1 : hasN l (fun q => ovr q (px, py, pi)) = srtI (ids (l.filter (fun q => ovr q (px, py, pi)))) := rfl
  rw [e1, srtI_len]
  clear e1
  have OV := Lib.hid (fun a b c d e f W => ref12_over1 a b c d e f W)
  go_enter Tryz.func75, Tryz.ntmps75
  obtain ⟨w1, ew1⟩ : ∃ w1, w1 = w.alloc (.cells #[.int .i64 px, .int .i64 py, .int .u32 pi] 34) := ⟨_, rfl⟩
  have hb1 : Below w.heap.size w w1 := by rw [ew1]; exact (Below.refl _ _).alloc (Nat.le_refl _) _
  have hx1 : w1.heap[w.heap.size]? = some (obP (px, py, pi)) := by rw [ew1]; exact lit0 _ _
  have hs1 : w.heap.size < w1.heap.size := (Array.getElem?_eq_some_iff.1 hx1).1
  have HX1 := Lib.hid hx1
  have EW1 := Lib.hid ew1
  clear ew1 hx1
  have EX : w.alloc (.cells #[.int .i64 px, .int .i64 py, .int .u32 pi] 34) = w1 := EW1.out.symm
  go_wp2
  try rw [EX]
  clear EX
  go_loopw [5, 6] (fun v iv wr => ∃ (i : Nat), iv = .int .i64 i ∧ i ≤ l.length ∧ Hid (wr.ownsRow w1.heap.size 32 1 v (ids ((l.take i).filter (fun q => ovr q (px, py, pi)))).length ((ids ((l.take i).filter (fun q => ovr q (px, py, pi)))).map (.int .u32))) ∧ Below w1.heap.size w1 wr) (fun _ iv _ => l.length - (intOf iv).toNat)
  case atStart => exact ⟨0, rfl, Nat.zero_le _, by simp [ids]; exact World.ownsRow_nil _ _ _ _, Below.refl _ _⟩
  case round =>
    obtain ⟨i, rfl, hi, HO, hb⟩ := hrel
    by_cases hlt : i < l.length
    · have hb0 := hb1.trans (hb.mono hb1.size)
      obtain ⟨b, off, ea, hbl, hcs⟩ := (H.out.below hb0).get (by omega)
      have x0 := hcs i hlt 0 (by omega)
      have x1' := hcs i hlt 1 (by omega)
      have x2' := hcs i hlt 2 (by omega)
      simp only [ePt, List.getElem?_cons_zero, List.getElem?_cons_succ, Nat.add_zero] at x0 x1' x2'
      have hlk : (ids ((l.take i).filter (fun q => ovr q (px, py, pi)))).length ≤ 1000000 := by
        unfold ids
        rw [List.length_map]
        exact Nat.le_trans (List.length_filter_le _ _) (by rw [List.length_take]; omega)
      have HY : Hid _ := (ids_take_in hlt (fun q => ovr q (px, py, pi))).1
      have HX : Hid _ := (ids_take_in hlt (fun q => ovr q (px, py, pi))).2
      have EA := Lib.hid ea
      clear hcs ea
      generalize l[i] = p at *
      obtain ⟨qx, qy, qi⟩ := p
      simp only at x0 x1' x2'
      obtain rfl := EA.out
      clear EA
      generalize ids ((l.take i).filter (fun q => ovr q (px, py, pi))) = L at *
      have hss := hb.size
      have hkl : (i : Int) < (l.length : Int) := by omega
      have bp := (hb.block w.heap.size hs1).trans HX1.out
      obtain ⟨y0, y1, y2⟩ := obP_cells bp
      go_wp2_with fail
      have HZ := Lib.hid (cell_belowW x2')
      have g0 := cell_belowW x0
      have g1 := cell_belowW x1'
      have g2 := cell_belowW x2'
      have g3 := cell_belowW y0
      have g4 := cell_belowW y1
      have g5 := cell_belowW y2
      clear x0 x1' x2' y0 y1 y2 bp
      refine wp_region_head (fun W => ∃ p : BelowW wr, W = p.W) [5] [(0, false), (1, false), (2, false), (3, true), (4, true)] (by kernel_rfl) (by kernel_rfl) (fun _ _ d _ _ h => by cases d <;> exact h) ⟨⟨_, (Below.refl _ _).drew⟩, rfl⟩ 1 rfl (by kernel_rfl) ?_
      simp only [pickB, List.filterMap_cons, List.filterMap_nil, List.getElem?_toArray, List.getElem?_cons_succ, List.getElem?_cons_zero, Option.map_some]
      repeat (refine wpHd_step (fun K hK => ?_); go_simp; first | (refine hK _ ?_; clear hK K) | (apply Exists.intro; refine ⟨fun _ => ?_, hK _ ?_⟩; rfl; clear hK K))
      refine wpHd_nil ?_
      refine wpAnyT_line [5] _ _ _ (by kernel_rfl) ?_
      simp only [pick, List.filterMap_cons, List.filterMap_nil, List.getElem?_toArray, List.getElem?_cons_succ, List.getElem?_cons_zero]
      clear g0 g1 g2 g3 g4 g5
      go_wp2_with fail
      refine (OV.out qx qy qi px py pi _).mono ?_
      rintro e w2 ⟨rfl, hb2⟩
      have hbd : Below wr.heap.size wr w2 := (Below.refl _ _).drew.trans hb2
      have B2 := hb.trans (hbd.mono hb.size)
      have HO2 := Lib.hid (ownsRow_below HO.out hbd)
      have z2 := HZ.out ⟨w2, hbd⟩
      have hs2 := B2.size
      have BI := Lib.hid (B2.alloc hs2)
      rcases Bool.eq_false_or_eq_true (ovr (qx, qy, qi) (px, py, pi)) with c1 | c1
      · have HF := Lib.hid (HY.out c1)
        clear HY HX HZ
        go_wp2_with (at_builtin; refine wp_append1 elU32s w1.heap.size HO2.out [.int .u32 qi] rfl (by simp [Value.oneCell']) rfl _ _ rfl rfl _ rfl (by unfold maxLen; omega) (by omega) hs2 ?_; intro v' w6 hown' hg; have b6 := below_grown B2 HO2.out hg hs2 (Nat.le_refl _))
        go_roundw
        case rel =>
          refine ⟨i + 1, by go_num, by omega, ?_, b6⟩
          show World.ownsRow _ _ _ _ _ _ _
          rw [HF.out, List.map_append, List.length_append]
          exact hown'
        case measure => simp [intOf]; omega
      · have HF := Lib.hid (HX.out c1)
        clear HY HX HZ
        go_wp2
        go_roundw
        case rel =>
          refine ⟨i + 1, by go_num, by omega, ?_, B2⟩
          show World.ownsRow _ _ _ _ _ _ _
          rw [HF.out]
          exact HO2.out
        case measure => simp [intOf]; omega
    · obtain rfl : i = l.length := by omega
      have hb0 := hb1.trans (hb.mono hb1.size)
      have HO2 := HO.out
      rw [List.take_length] at HO2
      have e3 : (ids (l.filter (fun q => ovr q (px, py, pi)))).length ≤ 1000000 := by
        unfold ids
        rw [List.length_map]
        exact Nat.le_trans (List.length_filter_le _ _) (by omega)
      obtain ⟨av, cv, rfl, -, -, hr⟩ := Rd.of_owns HO2
      have hc := SRT.out av _ _ cv wr rfl hr e3
      go_wp2_with (go_at_call 98; refine hc.mono ?_; rintro e w9 ⟨v9, rfl, hown9, hb9⟩)
      go_ret
      exact ⟨v9, rfl, rowMono hown9 hb0.size, hb0.trans (hb9.mono hb0.size)⟩

set_option maxRecDepth 100000 in
set_option maxHeartbeats 4000000 in
theorem ref12_Under (a : Option Addr) (l : List Pt) (n c : Nat) (w : World) (hn : l.length = n) (h : RdK ePt 3 w a l) (hl : n ≤ 1000000) (px py pi : Int) :
    Calls Tryz.prog 76 #[.slice a n c, vPt px py pi] w fun e w' => ∃ v, e = .returned v ∧ w'.ownsRow w.heap.size 32 1 v (hasN l (ovr (px, py, pi))).length ((hasN l (ovr (px, py, pi))).map (.int .u32)) ∧ Below w.heap.size w w' := by
  subst hn
  have H := Lib.hid h
  clear h
  have SRT := Lib.hid (fun a l n c w => ref8_sorted a l n c w)
  have e1 : hasN l (ovr (px, py, pi)) = srtI (ids (l.filter (ovr (px, py, pi)))) := rfl
  rw [e1, srtI_len]
  clear e1
  have OV := Lib.hid (fun a b c d e f W => ref12_over1 a b c d e f W)
  go_enter Tryz.func76, Tryz.ntmps76
  obtain ⟨w1, ew1⟩ : ∃ w1, w1 = w.alloc (.cells #[.int .i64 px, .int .i64 py, .int .u32 pi] 34) := ⟨_, rfl⟩
  have hb1 : Below w.heap.size w w1 := by rw [ew1]; exact (Below.refl _ _).alloc (Nat.le_refl _) _
  have hx1 : w1.heap[w.heap.size]? = some (obP (px, py, pi)) := by rw [ew1]; exact lit0 _ _
  have hs1 : w.heap.size < w1.heap.size := (Array.getElem?_eq_some_iff.1 hx1).1
  have HX1 := Lib.hid hx1
  have EW1 := Lib.hid ew1
  clear ew1 hx1
  have EX : w.alloc (.cells #[.int .i64 px, .int .i64 py, .int .u32 pi] 34) = w1 := EW1.out.symm
  go_wp2
  try rw [EX]
  clear EX
  go_loopw [5, 6] (fun v iv wr => ∃ (i : Nat), iv = .int .i64 i ∧ i ≤ l.length ∧ Hid (wr.ownsRow w1.heap.size 32 1 v (ids ((l.take i).filter (ovr (px, py, pi)))).length ((ids ((l.take i).filter (ovr (px, py, pi)))).map (.int .u32))) ∧ Below w1.heap.size w1 wr) (fun _ iv _ => l.length - (intOf iv).toNat)
  case atStart => exact ⟨0, rfl, Nat.zero_le _, by simp [ids]; exact World.ownsRow_nil _ _ _ _, Below.refl _ _⟩
  case round =>
    obtain ⟨i, rfl, hi, HO, hb⟩ := hrel
    by_cases hlt : i < l.length
    · have hb0 := hb1.trans (hb.mono hb1.size)
      obtain ⟨b, off, ea, hbl, hcs⟩ := (H.out.below hb0).get (by omega)
      have x0 := hcs i hlt 0 (by omega)
      have x1' := hcs i hlt 1 (by omega)
      have x2' := hcs i hlt 2 (by omega)
      simp only [ePt, List.getElem?_cons_zero, List.getElem?_cons_succ, Nat.add_zero] at x0 x1' x2'
      have hlk : (ids ((l.take i).filter (ovr (px, py, pi)))).length ≤ 1000000 := by
        unfold ids
        rw [List.length_map]
        exact Nat.le_trans (List.length_filter_le _ _) (by rw [List.length_take]; omega)
      have HY : Hid _ := (ids_take_in hlt (ovr (px, py, pi))).1
      have HX : Hid _ := (ids_take_in hlt (ovr (px, py, pi))).2
      have EA := Lib.hid ea
      clear hcs ea
      generalize l[i] = p at *
      obtain ⟨qx, qy, qi⟩ := p
      simp only at x0 x1' x2'
      obtain rfl := EA.out
      clear EA
      generalize ids ((l.take i).filter (ovr (px, py, pi))) = L at *
      have hss := hb.size
      have hkl : (i : Int) < (l.length : Int) := by omega
      have bp := (hb.block w.heap.size hs1).trans HX1.out
      obtain ⟨y0, y1, y2⟩ := obP_cells bp
      go_wp2_with fail
      have HZ := Lib.hid (cell_belowW x2')
      have g0 := cell_belowW x0
      have g1 := cell_belowW x1'
      have g2 := cell_belowW x2'
      have g3 := cell_belowW y0
      have g4 := cell_belowW y1
      have g5 := cell_belowW y2
      clear x0 x1' x2' y0 y1 y2 bp
      refine wp_region_head (fun W => ∃ p : BelowW wr, W = p.W) [5] [(0, true), (1, false), (2, false), (3, false), (4, true)] (by kernel_rfl) (by kernel_rfl) (fun _ _ d _ _ h => by cases d <;> exact h) ⟨⟨_, (Below.refl _ _).drew⟩, rfl⟩ 1 rfl (by kernel_rfl) ?_
      simp only [pickB, List.filterMap_cons, List.filterMap_nil, List.getElem?_toArray, List.getElem?_cons_succ, List.getElem?_cons_zero, Option.map_some]
      repeat (refine wpHd_step (fun K hK => ?_); go_simp; first | (refine hK _ ?_; clear hK K) | (apply Exists.intro; refine ⟨fun _ => ?_, hK _ ?_⟩; rfl; clear hK K))
      refine wpHd_nil ?_
      refine wpAnyT_line [5] _ _ _ (by kernel_rfl) ?_
      simp only [pick, List.filterMap_cons, List.filterMap_nil, List.getElem?_toArray, List.getElem?_cons_succ, List.getElem?_cons_zero]
      clear g0 g1 g2 g3 g4 g5
      go_wp2_with fail
      refine (OV.out px py pi qx qy qi _).mono ?_
      rintro e w2 ⟨rfl, hb2⟩
      have hbd : Below wr.heap.size wr w2 := (Below.refl _ _).drew.trans hb2
      have B2 := hb.trans (hbd.mono hb.size)
      have HO2 := Lib.hid (ownsRow_below HO.out hbd)
      have z2 := HZ.out ⟨w2, hbd⟩
      have hs2 := B2.size
      have BI := Lib.hid (B2.alloc hs2)
      rcases Bool.eq_false_or_eq_true (ovr (px, py, pi) (qx, qy, qi)) with c1 | c1
      · have HF := Lib.hid (HY.out c1)
        clear HY HX HZ
        go_wp2_with (at_builtin; refine wp_append1 elU32s w1.heap.size HO2.out [.int .u32 qi] rfl (by simp [Value.oneCell']) rfl _ _ rfl rfl _ rfl (by unfold maxLen; omega) (by omega) hs2 ?_; intro v' w6 hown' hg; have b6 := below_grown B2 HO2.out hg hs2 (Nat.le_refl _))
        go_roundw
        case rel =>
          refine ⟨i + 1, by go_num, by omega, ?_, b6⟩
          show World.ownsRow _ _ _ _ _ _ _
          rw [HF.out, List.map_append, List.length_append]
          exact hown'
        case measure => simp [intOf]; omega
      · have HF := Lib.hid (HX.out c1)
        clear HY HX HZ
        go_wp2
        go_roundw
        case rel =>
          refine ⟨i + 1, by go_num, by omega, ?_, B2⟩
          show World.ownsRow _ _ _ _ _ _ _
          rw [HF.out]
          exact HO2.out
        case measure => simp [intOf]; omega
    · obtain rfl : i = l.length := by omega
      have hb0 := hb1.trans (hb.mono hb1.size)
      have HO2 := HO.out
      rw [List.take_length] at HO2
      have e3 : (ids (l.filter (ovr (px, py, pi)))).length ≤ 1000000 := by
        unfold ids
        rw [List.length_map]
        exact Nat.le_trans (List.length_filter_le _ _) (by omega)
      obtain ⟨av, cv, rfl, -, -, hr⟩ := Rd.of_owns HO2
      have hc := SRT.out av _ _ cv wr rfl hr e3
      go_wp2_with (go_at_call 98; refine hc.mono ?_; rintro e w9 ⟨v9, rfl, hown9, hb9⟩)
      go_ret
      exact ⟨v9, rfl, rowMono hown9 hb0.size, hb0.trans (hb9.mono hb0.size)⟩
end Go.Proofs.YthplgcakhniidaaGreat
