/- gridironlaw12.asked: a tree tells of corners, and of points, what the document does (printed by gen_l12k.py). -/
import Derived.Test.YthplgcakhniidaaGreatL12s
import Derived.Test.YthplgcakhniidaaGreatCor
import Derived.Test.YthplgcakhniidaaGreatRf12
import Derived.Deep.CutRange
import Derived.Deep.RegionWith
namespace Go.Proofs.YthplgcakhniidaaGreat
open Go.RowKit Go.Maps
attribute [local irreducible] wpQuiet
set_option linter.unusedSimpArgs false
set_option linter.unusedVariables false

/-- what a corner holds, any way -/
def cwF (way x y : Int) (q : Pt) : Bool := decide (way < 4) && crnF x y (Int.tmod way 2 == 1) (decide (2 ≤ way)) q
theorem way_cases {way : Int} (h0 : 0 ≤ way) (h4 : way < 4) : way = 0 ∨ way = 1 ∨ way = 2 ∨ way = 3 := by omega
theorem way_eq {way : Int} (h0 : 0 ≤ way) (h4 : way < 4) : way = (if (Int.tmod way 2 == 1) then 1 else 0) + (if decide (2 ≤ way) then 2 else 0) := by
  rcases way_cases h0 h4 with rfl | rfl | rfl | rfl <;> rfl
theorem cwF_in {way : Int} (h4 : way < 4) (l : List Pt) (x y : Int) : hasN l (cwF way x y) = hasN l (crnF x y (Int.tmod way 2 == 1) (decide (2 ≤ way))) :=
  hasN_congr fun q _ => by simp [cwF, h4]
theorem cwF_out {way : Int} (h4 : ¬ way < 4) (l : List Pt) (x y : Int) : hasN l (cwF way x y) = [] :=
  hasN_none fun q _ => by simp [cwF, h4]
theorem hasN_few (l : List Pt) (f : Pt → Bool) : (hasN l f).length ≤ l.length := by rw [hasN_len]; exact List.length_filter_le _ _

section
variable {w : World} {lo hi cb n0 : Nat} {l : List Pt}
theorem coReport_any (h : CorAt w lo hi cb n0 l) (hl : wfL l) (x y way : Int) (h0 : 0 ≤ way) :
    Calls Tryz.prog 35 #[.pointer (some ⟨cb, 0, none⟩), .int .i64 x, .int .i64 y, .int .u8 way] w fun e w' => ∃ v, ∃ c : Nat, e = .returned (.tuple #[v, .int .i64 ((c + (hasN l (cwF way x y)).length : Nat) : Int)]) ∧ c ≤ 8 * Lib.bitLen n0 + 1 ∧ w'.ownsRow w.heap.size 32 1 v (hasN l (cwF way x y)).length ((hasN l (cwF way x y)).map (Value.int .u32)) ∧ Below w.heap.size w w' := by
  by_cases h4 : way < 4
  · rw [cwF_in h4]
    exact coReport h hl x y _ _ way (way_eq h0 h4)
  · rw [cwF_out h4]
    refine (coReport_no h x y way (by omega)).mono ?_
    rintro e w' ⟨rfl, rfl⟩
    exact ⟨_, 0, rfl, Nat.zero_le _, World.ownsRow_nil _ _ _ _, Below.refl _ _⟩
theorem coCount_any (h : CorAt w lo hi cb n0 l) (hl : wfL l) (x y way : Int) (h0 : 0 ≤ way) :
    Calls Tryz.prog 37 #[.pointer (some ⟨cb, 0, none⟩), .int .i64 x, .int .i64 y, .int .u8 way] w fun e w' => (∃ c : Nat, e = .returned (.tuple #[.int .i64 ((hasN l (cwF way x y)).length : Nat), .int .i64 c]) ∧ c ≤ 8 * Lib.bitLen n0 + 1) ∧ Below w.heap.size w w' := by
  by_cases h4 : way < 4
  · rw [cwF_in h4]
    exact coCount h hl x y _ _ way (way_eq h0 h4)
  · rw [cwF_out h4]
    refine (coCount_no h x y way (by omega)).mono ?_
    rintro e w' ⟨rfl, rfl⟩
    exact ⟨⟨0, rfl, Nat.zero_le _⟩, Below.refl _ _⟩
end

set_option maxRecDepth 100000 in
set_option maxHeartbeats 8000000 in
theorem asked12 {lo hi cb n0 : Nat} (a : Option Addr) (l : List Pt) (n c : Nat) (ab : Option Addr) (BL : List Pt) (nb kb : Nat) (way : Int) (w : World) (hn : l.length = n) (h : RdK ePt 3 w a l) (hwl : wfL l) (hT : CorAt w lo hi cb n0 l) (hnb : BL.length = nb) (hB : RdK ePt 3 w ab BL) (hwb : wfL BL) (hl : nb ≤ 1000) (h0 : 0 ≤ way) :
    Calls Tryz.prog 41 #[.pointer (some ⟨cb, 0, none⟩), .slice a n c, .slice ab nb kb, .int .u8 way] w fun e w' => e = .returned (.bool true) ∧ Below w.heap.size w w' := by
  subst hn hnb
  have few := hT.few
  have HP := Lib.hid h
  have HPR := Lib.hid hB
  have HT := Lib.hid hT
  have HWL := Lib.hid hwl
  have HWB := Lib.hid hwb
  have H0 := Lib.hid h0
  clear h hB hT hwl hwb h0
  go_enter Tryz.func41, Tryz.ntmps41
  go_wp2
  go_loopw [21] (fun kv wr => ∃ k : Nat, kv = .int .i64 k ∧ k ≤ BL.length ∧ Below w.heap.size w wr) (fun kv _ => BL.length - (intOf kv).toNat)
  case atStart => exact ⟨0, rfl, Nat.zero_le _, Below.refl _ _⟩
  case round =>
    obtain ⟨k, rfl, hk, hb⟩ := hrel
    by_cases hkl : k < BL.length
    · obtain ⟨b2, off, ea, hbl, hcs⟩ := (HPR.out.below hb).get (by omega)
      have x0 := hcs k hkl 0 (by omega)
      have x1 := hcs k hkl 1 (by omega)
      have x2 := hcs k hkl 2 (by omega)
      simp only [ePt, List.getElem?_cons_zero, List.getElem?_cons_succ, Nat.add_zero] at x0 x1 x2
      have hwq := HWB.out BL[k] (List.getElem_mem _)
      have EA := Lib.hid ea
      clear hcs ea
      generalize BL[k] = q at *
      obtain ⟨q1, q2, q3⟩ := q
      simp only at x0 x1 x2
      have hkl2 : (k : Int) < (BL.length : Int) := by omega
      obtain rfl := EA.out
      clear EA
      have HWQ := Lib.hid hwq
      clear hwq
      obtain ⟨w1, ew1⟩ : ∃ w1, w1 = wr.alloc (.cells #[.int .i64 q1, .int .i64 q2, .int .u32 q3] 34) := ⟨_, rfl⟩
      have b1 : Below wr.heap.size wr w1 := by rw [ew1]; exact (Below.refl _ _).alloc (Nat.le_refl _) _
      have X1 : w1.heap[wr.heap.size]? = some (obP (q1, q2, q3)) := by rw [ew1]; exact lit0 _ _
      have B1 := hb.trans (b1.mono hb.size)
      have EX := ew1.symm
      obtain ⟨y0, y1, y2⟩ := obP_cells X1
      clear ew1 b1
      have XH := Lib.hid X1
      clear X1
      go_wp2_with fail
      have X1 := XH.out
      (try rw [EX])
      clear XH EX x0 x1 x2 y0 y1 y2
      refine (coReport_any (HT.out.below B1 HT.out.hi_le) HWL.out q1 q2 way H0.out).mono ?_
      rintro e w2 ⟨v2, c2, rfl, -, hown2, hb2⟩
      obtain ⟨a2, k2, rfl, -, -, hr2⟩ := Rd.of_owns hown2
      have hle2 : (hasN l (cwF way q1 q2)).length ≤ 20000 := by have := hasN_few l ((cwF way q1 q2)); omega
      have B2 := B1.trans (hb2.mono B1.size)
      have X2 := (hb2.block _ (Array.getElem?_eq_some_iff.1 X1).1).trans X1
      clear B1 X1
      have R2_2 := Lib.hid hr2
      clear hr2 hown2 hb2
      obtain ⟨y0, y1, y2⟩ := obP_cells X2
      have XH := Lib.hid X2
      clear X2
      go_wp2_with fail
      have X2 := XH.out
      clear XH y0 y1 y2
      refine (coCount_any (HT.out.below B2 HT.out.hi_le) HWL.out q1 q2 way H0.out).mono ?_
      rintro e w3 ⟨⟨c3, rfl, -⟩, hb3⟩
      have B3 := B2.trans (hb3.mono B2.size)
      have X3 := (hb3.block _ (Array.getElem?_eq_some_iff.1 X2).1).trans X2
      have R2_3 := Lib.hid (R2_2.out.below hb3)
      clear B2 X2 R2_2
      clear hb3
      obtain ⟨y0, y1, y2⟩ := obP_cells X3
      have XH := Lib.hid X3
      clear X3
      go_wp2_with fail
      have X3 := XH.out
      clear XH y0 y1 y2
      refine (coOver (HT.out.below B3 HT.out.hi_le) HWL.out q1 q2 q3 HWQ.out.1 HWQ.out.2.1).mono ?_
      rintro e w4 ⟨v4, c4, rfl, -, hown4, hb4⟩
      obtain ⟨a4, k4, rfl, -, -, hr4⟩ := Rd.of_owns hown4
      have hle4 : (hasN l (fun q => ovr q (q1, q2, q3))).length ≤ 20000 := by have := hasN_few l ((fun q => ovr q (q1, q2, q3))); omega
      have B4 := B3.trans (hb4.mono B3.size)
      have X4 := (hb4.block _ (Array.getElem?_eq_some_iff.1 X3).1).trans X3
      have R2_4 := Lib.hid (R2_3.out.below hb4)
      clear B3 X3 R2_3
      have R4_4 := Lib.hid hr4
      clear hr4 hown4 hb4
      obtain ⟨y0, y1, y2⟩ := obP_cells X4
      have XH := Lib.hid X4
      clear X4
      go_wp2_with fail
      have X4 := XH.out
      clear XH y0 y1 y2
      refine (coUnder (HT.out.below B4 HT.out.hi_le) HWL.out q1 q2 q3 HWQ.out.1 HWQ.out.2.1).mono ?_
      rintro e w5 ⟨v5, c5, rfl, -, hown5, hb5⟩
      obtain ⟨a5, k5, rfl, -, -, hr5⟩ := Rd.of_owns hown5
      have hle5 : (hasN l (ovr (q1, q2, q3))).length ≤ 20000 := by have := hasN_few l ((ovr (q1, q2, q3))); omega
      have B5 := B4.trans (hb5.mono B4.size)
      have X5 := (hb5.block _ (Array.getElem?_eq_some_iff.1 X4).1).trans X4
      have R2_5 := Lib.hid (R2_4.out.below hb5)
      have R4_5 := Lib.hid (R4_4.out.below hb5)
      clear B4 X4 R2_4 R4_4
      have R5_5 := Lib.hid hr5
      clear hr5 hown5 hb5
      obtain ⟨y0, y1, y2⟩ := obP_cells X5
      have XH := Lib.hid X5
      clear X5
      go_wp2_with fail
      have X5 := XH.out
      clear XH y0 y1 y2
      refine (ref12_corner a l l.length c w5 rfl (HP.out.below B5) (by omega) q1 q2 way _ _ _ rfl rfl rfl).mono ?_
      rintro e w6 ⟨v6, rfl, hown6, hb6⟩
      obtain ⟨a6, k6, rfl, -, -, hr6⟩ := Rd.of_owns hown6
      have B6 := B5.trans (hb6.mono B5.size)
      have X6 := (hb6.block _ (Array.getElem?_eq_some_iff.1 X5).1).trans X5
      have R2_6 := Lib.hid (R2_5.out.below hb6)
      have R4_6 := Lib.hid (R4_5.out.below hb6)
      have R5_6 := Lib.hid (R5_5.out.below hb6)
      clear B5 X5 R2_5 R4_5 R5_5
      have R6_6 := Lib.hid hr6
      clear hr6 hown6 hb6
      obtain ⟨y0, y1, y2⟩ := obP_cells X6
      have XH := Lib.hid X6
      clear X6
      go_wp2_with fail
      have X6 := XH.out
      clear XH y0 y1 y2
      refine (same12 a2 a6 (hasN l (cwF way q1 q2)) (hasN l (cwF way q1 q2)) _ _ k2 k6 w6 rfl rfl R2_6.out R6_6.out (by omega) (by omega)).mono ?_
      rintro e w7 ⟨rfl, hb7⟩
      have B7 := B6.trans (hb7.mono B6.size)
      have X7 := (hb7.block _ (Array.getElem?_eq_some_iff.1 X6).1).trans X6
      have R2_7 := Lib.hid (R2_6.out.below hb7)
      have R4_7 := Lib.hid (R4_6.out.below hb7)
      have R5_7 := Lib.hid (R5_6.out.below hb7)
      have R6_7 := Lib.hid (R6_6.out.below hb7)
      clear B6 X6 R2_6 R4_6 R5_6 R6_6
      clear R6_7 hb7
      clear R2_7
      have hdt7 : decide (hasN l (cwF way q1 q2) = hasN l (cwF way q1 q2)) = true := by simp
      obtain ⟨y0, y1, y2⟩ := obP_cells X7
      have XH := Lib.hid X7
      clear X7
      go_wp2_with fail
      have X7 := XH.out
      clear XH y0 y1 y2
      refine (ref12_Over a l l.length c w7 rfl (HP.out.below B7) (by omega) q1 q2 q3).mono ?_
      rintro e w8 ⟨v8, rfl, hown8, hb8⟩
      obtain ⟨a8, k8, rfl, -, -, hr8⟩ := Rd.of_owns hown8
      have B8 := B7.trans (hb8.mono B7.size)
      have X8 := (hb8.block _ (Array.getElem?_eq_some_iff.1 X7).1).trans X7
      have R4_8 := Lib.hid (R4_7.out.below hb8)
      have R5_8 := Lib.hid (R5_7.out.below hb8)
      clear B7 X7 R4_7 R5_7
      have R8_8 := Lib.hid hr8
      clear hr8 hown8 hb8
      obtain ⟨y0, y1, y2⟩ := obP_cells X8
      have XH := Lib.hid X8
      clear X8
      go_wp2_with fail
      have X8 := XH.out
      clear XH y0 y1 y2
      refine (same12 a4 a8 (hasN l (fun q => ovr q (q1, q2, q3))) (hasN l (fun q => ovr q (q1, q2, q3))) _ _ k4 k8 w8 rfl rfl R4_8.out R8_8.out (by omega) (by omega)).mono ?_
      rintro e w9 ⟨rfl, hb9⟩
      have B9 := B8.trans (hb9.mono B8.size)
      have X9 := (hb9.block _ (Array.getElem?_eq_some_iff.1 X8).1).trans X8
      have R4_9 := Lib.hid (R4_8.out.below hb9)
      have R5_9 := Lib.hid (R5_8.out.below hb9)
      have R8_9 := Lib.hid (R8_8.out.below hb9)
      clear B8 X8 R4_8 R5_8 R8_8
      clear R8_9 hb9
      clear R4_9
      have hdt9 : decide (hasN l (fun q => ovr q (q1, q2, q3)) = hasN l (fun q => ovr q (q1, q2, q3))) = true := by simp
      obtain ⟨y0, y1, y2⟩ := obP_cells X9
      have XH := Lib.hid X9
      clear X9
      go_wp2_with fail
      have X9 := XH.out
      clear XH y0 y1 y2
      refine (ref12_Under a l l.length c w9 rfl (HP.out.below B9) (by omega) q1 q2 q3).mono ?_
      rintro e w10 ⟨v10, rfl, hown10, hb10⟩
      obtain ⟨a10, k10, rfl, -, -, hr10⟩ := Rd.of_owns hown10
      have B10 := B9.trans (hb10.mono B9.size)
      have X10 := (hb10.block _ (Array.getElem?_eq_some_iff.1 X9).1).trans X9
      have R5_10 := Lib.hid (R5_9.out.below hb10)
      clear B9 X9 R5_9
      have R10_10 := Lib.hid hr10
      clear hr10 hown10 hb10
      obtain ⟨y0, y1, y2⟩ := obP_cells X10
      have XH := Lib.hid X10
      clear X10
      go_wp2_with fail
      have X10 := XH.out
      clear XH y0 y1 y2
      refine (same12 a5 a10 (hasN l (ovr (q1, q2, q3))) (hasN l (ovr (q1, q2, q3))) _ _ k5 k10 w10 rfl rfl R5_10.out R10_10.out (by omega) (by omega)).mono ?_
      rintro e w11 ⟨rfl, hb11⟩
      have B11 := B10.trans (hb11.mono B10.size)
      have X11 := (hb11.block _ (Array.getElem?_eq_some_iff.1 X10).1).trans X10
      have R5_11 := Lib.hid (R5_10.out.below hb11)
      have R10_11 := Lib.hid (R10_10.out.below hb11)
      clear B10 X10 R5_10 R10_10
      clear R10_11 hb11
      clear R5_11
      have hdt11 : decide (hasN l (ovr (q1, q2, q3)) = hasN l (ovr (q1, q2, q3))) = true := by simp
      clear X11
      go_wp2
      exact ⟨⟨k + 1, by go_num, by omega, B11⟩, by simp [intOf]; omega⟩
    · obtain rfl : k = BL.length := by omega
      have cl := Lib.hid (coLen (HT.out.below hb HT.out.hi_le))
      go_wp2_with (go_at_call 40; refine cl.out.mono ?_; rintro e w9 ⟨rfl, rfl⟩)
      go_ret
      exact ⟨rfl, hb⟩
end Go.Proofs.YthplgcakhniidaaGreat
