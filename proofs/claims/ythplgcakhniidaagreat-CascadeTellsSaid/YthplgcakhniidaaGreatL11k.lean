/- gridironlaw11.asked: a tree tells of boxes what the document does. -/
import Derived.Test.YthplgcakhniidaaGreatL11b
import Derived.Test.YthplgcakhniidaaGreatQ7
namespace Go.Proofs.YthplgcakhniidaaGreat
open Go.RowKit Go.Maps
attribute [local irreducible] wpQuiet
set_option linter.unusedSimpArgs false
set_option linter.unusedVariables false

set_option maxRecDepth 100000 in
set_option maxHeartbeats 8000000 in
theorem asked11 {lo hi tb n0 : Nat} (a : Option Addr) (l : List Pt) (n c : Nat) (ab : Option Addr) (BL : List Bx) (nb cb : Nat) (w : World) (hn : l.length = n) (h : RdK ePt 3 w a l) (hT : TreeAt w lo hi tb n0 l) (hnb : BL.length = nb) (hB : RdK eBx 5 w ab BL) (hl : nb ≤ 1000) :
    Calls Tryz.prog 27 #[.pointer (some ⟨tb, 0, none⟩), .slice a n c, .slice ab nb cb] w fun e w' => e = .returned (.bool true) ∧ Below w.heap.size w w' := by
  subst hn hnb
  have few := hT.few
  have HP := Lib.hid h
  have HPR := Lib.hid hB
  have HT3 := Lib.hid hT
  have TR := Lib.hid (fun (W : World) (hT : TreeAt W lo hi tb n0 l) x1 x2 y1 y2 bi => tReport hT x1 x2 y1 y2 bi)
  have TC := Lib.hid (fun (W : World) (hT : TreeAt W lo hi tb n0 l) x1 x2 y1 y2 bi => tCount hT x1 x2 y1 y2 bi)
  have RH := Lib.hid (fun (W : World) (h : RdK ePt 3 W a l) x1 x2 y1 y2 bi => ref11_has a l l.length c W rfl h (by omega) x1 x2 y1 y2 bi)
  have RC := Lib.hid (fun (W : World) (h : RdK ePt 3 W a l) x1 x2 y1 y2 bi => ref11_count a l l.length c W rfl h (by omega) x1 x2 y1 y2 bi)
  clear h hB hT
  go_enter Tryz.func27, Tryz.ntmps27
  go_wp2
  go_loopw [15] (fun kv wr => ∃ k : Nat, kv = .int .i64 k ∧ k ≤ BL.length ∧ Below w.heap.size w wr) (fun kv _ => BL.length - (intOf kv).toNat)
  case atStart => exact ⟨0, rfl, Nat.zero_le _, Below.refl _ _⟩
  case round =>
    obtain ⟨k, rfl, hk, hb⟩ := hrel
    by_cases hkl : k < BL.length
    · obtain ⟨b2, off, ea, hbl, hcs⟩ := (HPR.out.below hb).get (by omega)
      have x0 := hcs k hkl 0 (by omega)
      have x1 := hcs k hkl 1 (by omega)
      have x2 := hcs k hkl 2 (by omega)
      have x3 := hcs k hkl 3 (by omega)
      have x4 := hcs k hkl 4 (by omega)
      simp only [eBx, List.getElem?_cons_zero, List.getElem?_cons_succ, Nat.add_zero] at x0 x1 x2 x3 x4
      have EA := Lib.hid ea
      clear hcs ea
      generalize BL[k] = q at *
      obtain ⟨q1, q2, q3, q4, q5⟩ := q
      simp only at x0 x1 x2 x3 x4
      have hkl2 : (k : Int) < (BL.length : Int) := by omega
      obtain rfl := EA.out
      clear EA
      have TA := HT3.out.below hb HT3.out.hi_le
      obtain ⟨w4, ew4⟩ : ∃ w4, w4 = wr.alloc (.cells #[.int .i64 q1, .int .i64 q2, .int .i64 q3, .int .i64 q4, .int .u32 q5] 39) := ⟨_, rfl⟩
      have b4 : Below wr.heap.size wr w4 := by rw [ew4]; exact (Below.refl _ _).alloc (Nat.le_refl _) _
      have X4 : w4.heap[wr.heap.size]? = some (objBx (q1, q2, q3, q4, q5)) := by rw [ew4]; exact lit0 _ _
      have hs4 : wr.heap.size < w4.heap.size := (Array.getElem?_eq_some_iff.1 X4).1
      have B4 := hb.trans (b4.mono hb.size)
      have T4 := TA.below b4 TA.hi_le
      have EX := ew4.symm
      obtain ⟨y0, y1, y2, y3, y4⟩ := objBx_cells X4
      clear ew4 TA
      have c4 := Lib.hid (TR.out w4 T4 q1 q2 q3 q4 q5)
      clear b4
      go_wp2_with (go_at_call 24; (try rw [EX]); refine c4.out.mono ?_; rintro e w5 ⟨v5, t5, rfl, ht5, hown5, hb5⟩; have B5 := B4.trans (hb5.mono B4.size); have X5 := (hb5.block _ hs4).trans X4; obtain ⟨z0, z1, z2, z3, z4⟩ := objBx_cells X5; obtain ⟨a5, k5, rfl, -, -, hr5⟩ := Rd.of_owns hown5; clear hown5 EX x0 x1 x2 x3 x4 y0 y1 y2 y3 y4)
      have hs5 : wr.heap.size < w5.heap.size := (Array.getElem?_eq_some_iff.1 X5).1
      have T5 := T4.below hb5 T4.hi_le
      have R5 := Lib.hid hr5
      have eln := Lib.hid (hasB_len (l := l) q1 q2 q3 q4)
      have hg : (l.filter (inB q1 q2 q3 q4)).length ≤ 20000 := by have := List.length_filter_le (inB q1 q2 q3 q4) l; omega
      clear hr5 X4 hs4 T4 hb5 B4 c4
      refine (TC.out w5 T5 q1 q2 q3 q4 q5).mono ?_
      rintro e w6 ⟨⟨t6, rfl, ht6⟩, hb6⟩
      have B6 := B5.trans (hb6.mono B5.size)
      have X6 := (hb6.block _ hs5).trans X5
      have hs6 : wr.heap.size < w6.heap.size := (Array.getElem?_eq_some_iff.1 X6).1
      have R6 := Lib.hid (R5.out.below hb6)
      obtain ⟨z0, z1, z2, z3, z4⟩ := objBx_cells X6
      clear X5 hs5 T5 hb6 B5 R5
      go_wp2_with fail
      refine (RH.out w6 (HP.out.below B6) q1 q2 q3 q4 q5).mono ?_
      rintro e w7 ⟨v7, rfl, hown7, hb7⟩
      obtain ⟨a7, k7, rfl, -, -, hr7⟩ := Rd.of_owns hown7
      have B7 := B6.trans (hb7.mono B6.size)
      have X7 := (hb7.block _ hs6).trans X6
      have hs7 : wr.heap.size < w7.heap.size := (Array.getElem?_eq_some_iff.1 X7).1
      have R7 := Lib.hid (R6.out.below hb7)
      have R7' := Lib.hid hr7
      clear hown7 hr7 hb7 B6 R6 X6 hs6 z0 z1 z2 z3 z4
      have hgl : (hasB l q1 q2 q3 q4).length ≤ 1000000 := by rw [eln.out]; omega
      have c7 := Lib.hid (same11 a5 a7 (hasB l q1 q2 q3 q4) (hasB l q1 q2 q3 q4) _ _ k5 k7 w7 rfl rfl R7.out R7'.out hgl hgl)
      clear hgl
      go_wp2_with fail
      refine c7.out.mono ?_
      rintro e w8 ⟨rfl, hb8⟩
      have B8 := B7.trans (hb8.mono B7.size)
      have X8 := (hb8.block _ hs7).trans X7
      obtain ⟨z0, z1, z2, z3, z4⟩ := objBx_cells X8
      have hdt : decide (hasB l q1 q2 q3 q4 = hasB l q1 q2 q3 q4) = true := by simp
      have c8 := Lib.hid (RC.out w8 (HP.out.below B8) q1 q2 q3 q4 q5)
      clear hb8 B7 X7 hs7 R7 R7' c7 RH TR TC
      go_wp2_with fail
      refine c8.out.mono ?_
      rintro e w9 ⟨rfl, hb9⟩
      have B9 := B8.trans (hb9.mono B8.size)
      clear c8 B8 hb9 X8 z0 z1 z2 z3 z4
      generalize (l.filter (inB q1 q2 q3 q4)).length = g at *
      go_wp2
      exact ⟨⟨k + 1, by go_num, by omega, B9⟩, by simp [intOf]; omega⟩
    · obtain rfl : k = BL.length := by omega
      have TA := HT3.out.below hb HT3.out.hi_le
      have cl := Lib.hid (tLen TA)
      clear TA
      go_wp2_with (go_at_call 26; refine cl.out.mono ?_; rintro e w9 ⟨rfl, rfl⟩)
      go_ret
      exact ⟨rfl, hb⟩
end Go.Proofs.YthplgcakhniidaaGreat
