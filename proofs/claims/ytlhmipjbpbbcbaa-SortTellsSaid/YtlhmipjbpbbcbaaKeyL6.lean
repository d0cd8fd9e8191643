/- The walk of the law SortTells. -/
import Derived.Test.YtlhmipjbpbbcbaaKeyX
import Derived.Test.YtlhmipjbpbbcbaaU32P
import Derived.Test.YtlhmipjbpbbcbaaKeyL5
namespace Go.Proofs.Ytlhmipjbpbbcbaa
open Go.RowKit

set_option maxRecDepth 100000 in
set_option maxHeartbeats 1000000 in
/-- two lists of keys that are the same -/
theorem sameKeysEq (a a' : Option Addr) (l : List (Int × Int)) (n n' c c' : Nat) (w : World) (hn : l.length = n ∧ n = n') (h : RdK eKey 2 w a l) (h' : RdK eKey 2 w a' l) (hl : n ≤ 1000000) :
    Calls Try.prog 37 #[.slice a n c, .slice a' n' c'] w fun e w' => e = .returned (.bool true) ∧ Below w.heap.size w w' := by
  obtain ⟨hn, rfl⟩ := hn
  have H := Lib.hid h
  have H' := Lib.hid h'
  have HN := Lib.hid hn
  clear h h' hn
  go_enter Try.func37, Try.ntmps37
  go_wp2
  go_loopw [5] (fun i wr => ∃ k : Nat, i = .int .i64 k ∧ k ≤ n ∧ Below w.heap.size w wr) (fun i _ => n - (intOf i).toNat)
  case atStart => exact ⟨0, rfl, Nat.zero_le _, Below.refl _ _⟩
  case round =>
    obtain ⟨k, rfl, hk, hb⟩ := hrel
    by_cases hlt : k < n
    · have hkl : k < l.length := by rw [HN.out]; exact hlt
      obtain ⟨b, off, ea, hbl, hc⟩ := (H.out.below hb).get (by omega)
      obtain ⟨b', off', ea', hbl', hc'⟩ := (H'.out.below hb).get (by omega)
      have x0 := hc k hkl 0 (by omega)
      have x1 := hc k hkl 1 (by omega)
      have y0 := hc' k hkl 0 (by omega)
      have y1 := hc' k hkl 1 (by omega)
      simp only [eKey, List.getElem?_cons_zero, List.getElem?_cons_succ, Nat.add_zero] at x0 x1 y0 y1
      clear hc hc' H H'
      generalize l[k] = x at *
      obtain ⟨xa, xb⟩ := x
      simp only at x0 x1 y0 y1
      clear hkl
      subst ea ea'
      have E1 : (xa == xa) = true := by simp
      have E2 : (xb == xb) = true := by simp
      go_wp2
      go_quiet (fail)
      go_wp2
      go_roundw
      case rel => exact ⟨k + 1, by go_num, by omega, hb.trans (Below.drewAny _ _)⟩
      case measure => simp [intOf]; omega
    · obtain rfl : k = n := by omega
      clear H H' HN
      go_wp2
      go_ret
      exact ⟨rfl, hb⟩

set_option maxRecDepth 100000 in
set_option maxHeartbeats 4000000 in
theorem wSortTells (a b a' : Option Addr) (l l' : List (Int × Int)) (nm : List Int) (n n' c d c' : Nat) (w : World) (hn : l.length = n) (hn' : l'.length = n') (h : RdK eKey 2 w a l) (h' : RdK eKey 2 w b l') (h3 : Rd (.int .u32) w a' nm) (hm : n ≤ 9223372036854775807) (hm' : n' ≤ 9223372036854775807) (hm3 : nm.length ≤ 9223372036854775807) :
    Calls Try.prog 9 #[.slice a n c, .slice b n' d, .slice a' nm.length c'] w fun e w' => e = .returned (.bool true) ∧ Below w.heap.size w w' := by
  have AW := Lib.hid awake03
  by_cases hbig : 200 < n ∨ 200 < n' ∨ 200 < nm.length
  · clear h h' h3 hn hn'
    by_cases q1 : 200 < n
    · have d1 : decide ((200 : Int) < (n : Int)) = true := by simp; omega
      clear hbig
      go_enter Try.func9, Try.ntmps9
      go_wp2_with fail
      refine (AW.out w).mono ?_
      rintro e w1 ⟨rfl, hb⟩
      go_wp2_with fail
      go_ret
      exact ⟨rfl, hb⟩
    · have d1 : decide ((200 : Int) < (n : Int)) = false := by simp; omega
      by_cases q2 : 200 < n'
      · have d2 : decide ((200 : Int) < (n' : Int)) = true := by simp; omega
        clear hbig
        go_enter Try.func9, Try.ntmps9
        go_wp2_with fail
        refine (AW.out w).mono ?_
        rintro e w1 ⟨rfl, hb⟩
        go_wp2_with fail
        go_ret
        exact ⟨rfl, hb⟩
      · have d2 : decide ((200 : Int) < (n' : Int)) = false := by simp; omega
        have d3 : decide ((200 : Int) < (nm.length : Int)) = true := by simp; omega
        clear hbig
        go_enter Try.func9, Try.ntmps9
        go_wp2_with fail
        refine (AW.out w).mono ?_
        rintro e w1 ⟨rfl, hb⟩
        go_wp2_with fail
        go_ret
        exact ⟨rfl, hb⟩
  · have d1 : decide ((200 : Int) < (n : Int)) = false := by simp; omega
    have d2 : decide ((200 : Int) < (n' : Int)) = false := by simp; omega
    have d3 : decide ((200 : Int) < (nm.length : Int)) = false := by simp; omega
    have b1 : n ≤ 200 := by omega
    have b2 : n' ≤ 200 := by omega
    have b3 : nm.length ≤ 200 := by omega
    have hS := (sqz_facts nm).2.2
    have HL := Lib.hid h
    have HL' := Lib.hid h'
    have HN := Lib.hid h3
    have HK := Lib.hid hn
    have HK' := Lib.hid hn'
    have gq := wrF_le n n
    have gq2 : n * n ≤ 200 * 200 := Nat.mul_le_mul (by omega) (by omega)
    clear h h' h3 hn hn' hbig
    go_enter Try.func9, Try.ntmps9
    go_wp2_with fail
    refine (copyKeys a l n c w HK.out HL.out (by omega)).mono ?_
    rintro e w1 ⟨v1, rfl, hown, hb1⟩
    obtain ⟨a1, c1, rfl, r1⟩ := own_sliceK eKey_len (by decide) hown
    have K1 := Lib.hid r1
    clear r1 hown
    go_wp2_with fail
    refine (copyKeys b l' n' d w1 HK'.out (HL'.out.below hb1) (by omega)).mono ?_
    rintro e w2 ⟨v2, rfl, hown, hb2⟩
    obtain ⟨a2, c2, rfl, r2⟩ := own_sliceK eKey_len (by decide) hown
    have K2 := Lib.hid r2
    have K1b : Hid (RdK eKey 2 w2 a1 l) := K1.out.below hb2
    have B2 := bl hb1 hb2
    clear r2 hown K1 hb1 hb2
    go_wp2_with fail
    refine (copyNames a' nm c' w2 (HN.out.below B2) (by omega)).mono ?_
    rintro e w3 ⟨v3, rfl, hown, hb3⟩
    obtain ⟨a3, c3, rfl, -, -, r3⟩ := Rd.of_owns hown
    have R3 := Lib.hid r3
    have K1 : Hid (RdK eKey 2 w3 a1 l) := K1b.out.below hb3
    have K2b : Hid (RdK eKey 2 w3 a2 l') := K2.out.below hb3
    have C3 := bl B2 hb3
    clear r3 hown K1b hb3 B2 K2
    have K2 := K2b
    clear K2b
    go_wp2_with fail
    refine (kOrdN a1 l n c1 w3 HK.out K1.out (by omega)).mono ?_
    rintro e w4 ⟨a4, c4, rfl, -, hown, hb4⟩
    obtain ⟨a4', c4', e4, r4⟩ := own_slice hown
    injection e4 with e41 e42 e43
    subst e41 e43
    have R4 := Lib.hid r4
    have C4 := bl C3 hb4
    clear r4 hown e42
    go_wp2_with fail
    refine (refOrder a l n c w4 HK.out (HL.out.below C4) (by omega)).mono ?_
    rintro e w5 ⟨v5, rfl, hown, hb5⟩
    obtain ⟨a5, c5, rfl, r5⟩ := own_slice hown
    have R5 := Lib.hid r5
    have R4b := Lib.hid (R4.out.below hb5)
    have B5 := bl hb4 hb5
    have C5 := bl C3 B5
    clear r5 hown hb5 hb4 C4 R4
    have hq : wrF n n ≤ 100000 := by omega
    have hqq : ((wrF n n : Int) != (wrF n n : Int)) = false := by simp
    generalize wrF n n = q at *
    go_wp2_with fail
    refine (intsSame a4 a5 c4 c5 n (ordL l) w5 (by rw [ordL_len]; exact HK.out) R4b.out R5.out (by omega)).mono ?_
    rintro e w6 ⟨rfl, hb6⟩
    have B6 := bl B5 hb6
    have C6 := bl C3 B6
    clear hb6 B5 C5 R4b R5
    by_cases hr : (riseK l && riseK l') = true
    · go_wp2_with fail
      refine (kMergeYesN a1 a2 l l' n n' c1 c2 w6 HK.out HK'.out (K1.out.below B6) (K2.out.below B6) (by omega) (by omega) hr).mono ?_
      rintro e w7 ⟨a7, c7, rfl, r7, hb7⟩
      have R7 := Lib.hid r7
      have B7 := bl B6 hb7
      have C7 := bl C6 hb7
      clear r7 hb7 B6 C6
      go_wp2_with fail
      refine (refMergeYes a b l l' n n' c d w7 HK.out HK'.out (HL.out.below C7) (HL'.out.below C7) (by omega) (by omega) hr).mono ?_
      rintro e w8 ⟨v8, rfl, hown, hb8⟩
      obtain ⟨a8, c8, rfl, r8⟩ := own_slice hown
      have R8 := Lib.hid r8
      have R7b := Lib.hid (R7.out.below hb8)
      have B8 := bl B7 hb8
      have C8 := bl C7 hb8
      clear r8 hown hb8 B7 C7 R7
      have hqq2 : (((n + n' : Nat) : Int) != ((n + n' : Nat) : Int)) = false := by simp
      go_wp2_with fail
      refine (intsSame a7 a8 c7 c8 (n + n') (mrgL l l') w8 (by rw [mrgL_len, HK.out, HK'.out]) R7b.out R8.out (by omega)).mono ?_
      rintro e w9 ⟨rfl, hb9⟩
      have BM := bl B8 hb9
      have CM := bl C8 hb9
      clear hb9 B8 C8 R7b R8 hr
      go_wp2_with fail
      refine (onceAny a3 nm c3 _ (R3.out.below BM) (by omega)).mono ?_
      rintro e wa ⟨va, rfl, oa, hba⟩
      obtain ⟨aa, ca, rfl, -, -, ra⟩ := Rd.of_owns oa
      have RA := Lib.hid ra
      have BA := bl BM hba
      have CA := bl CM hba
      clear ra oa hba
      go_wp2_with fail
      refine (refOnce a' nm c' wa (HN.out.below CA) (by omega)).mono ?_
      rintro e wb ⟨vb, rfl, ob, hbb⟩
      obtain ⟨ab, cb, rfl, -, -, rb⟩ := Rd.of_owns ob
      have RB := Lib.hid rb
      have RA2 := Lib.hid (RA.out.below hbb)
      have BB := bl BA hbb
      have CB := bl CA hbb
      clear rb ob hbb RA BA CA
      go_wp2_with fail
      refine (same_names aa ab (sqz nm) (sqz nm) ca cb wb RA2.out RB.out (by omega) (by omega)).mono ?_
      rw [show decide (sqz nm = sqz nm) = true by simp]
      rintro e wc ⟨rfl, hbc⟩
      have BC := bl BB hbc
      have CC := bl CB hbc
      clear hbc RA2 RB BB CB
      go_wp2_with fail
      refine (sameKeysEq a1 a l n n c1 c _ ⟨HK.out, rfl⟩ (K1.out.below BC) (HL.out.below CC) (by omega)).mono ?_
      rintro e wd ⟨rfl, hbd⟩
      have BD := bl BC hbd
      have CD := bl CC hbd
      clear hbd BC CC
      go_wp2_with fail
      refine (sameKeysEq a2 b l' n' n' c2 d _ ⟨HK'.out, rfl⟩ (K2.out.below BD) (HL'.out.below CD) (by omega)).mono ?_
      rintro e we ⟨rfl, hbe⟩
      have BE := bl BD hbe
      have CE := bl CD hbe
      clear hbe BD CD
      go_wp2_with fail
      refine (same_names a3 a' nm nm c3 c' we (R3.out.below BE) (HN.out.below CE) (by omega) (by omega)).mono ?_
      rw [show decide (nm = nm) = true by simp]
      rintro e wf ⟨rfl, hbf⟩
      have CF := bl CE hbf
      go_wp2_with fail
      refine (AW.out wf).mono ?_
      rintro e wg ⟨rfl, hbg⟩
      go_wp2_with fail
      go_ret
      exact ⟨rfl, bl CF hbg⟩
    · replace hr : (riseK l && riseK l') = false := by simpa using hr
      go_wp2_with fail
      refine (kMergeNoN a1 a2 l l' n n' c1 c2 w6 HK.out HK'.out (K1.out.below B6) (K2.out.below B6) (by omega) (by omega) hr).mono ?_
      rintro e w7 ⟨rfl, hb7⟩
      have B7 := bl B6 hb7
      have C7 := bl C6 hb7
      clear hb7 B6 C6
      go_wp2_with fail
      refine (refMergeNo a b l l' n n' c d w7 HK.out HK'.out (HL.out.below C7) (HL'.out.below C7) (by omega) (by omega) hr).mono ?_
      rintro e w8 ⟨rfl, hb8⟩
      have B8 := bl B7 hb8
      have C8 := bl C7 hb8
      clear hb8 B7 C7
      go_wp2_with fail
      refine (intsSame none none 0 0 0 [] w8 rfl .nil .nil (by omega)).mono ?_
      rintro e w9 ⟨rfl, hb9⟩
      have BM := bl B8 hb9
      have CM := bl C8 hb9
      clear hb9 B8 C8 hr
      go_wp2_with fail
      refine (onceAny a3 nm c3 _ (R3.out.below BM) (by omega)).mono ?_
      rintro e wa ⟨va, rfl, oa, hba⟩
      obtain ⟨aa, ca, rfl, -, -, ra⟩ := Rd.of_owns oa
      have RA := Lib.hid ra
      have BA := bl BM hba
      have CA := bl CM hba
      clear ra oa hba
      go_wp2_with fail
      refine (refOnce a' nm c' wa (HN.out.below CA) (by omega)).mono ?_
      rintro e wb ⟨vb, rfl, ob, hbb⟩
      obtain ⟨ab, cb, rfl, -, -, rb⟩ := Rd.of_owns ob
      have RB := Lib.hid rb
      have RA2 := Lib.hid (RA.out.below hbb)
      have BB := bl BA hbb
      have CB := bl CA hbb
      clear rb ob hbb RA BA CA
      go_wp2_with fail
      refine (same_names aa ab (sqz nm) (sqz nm) ca cb wb RA2.out RB.out (by omega) (by omega)).mono ?_
      rw [show decide (sqz nm = sqz nm) = true by simp]
      rintro e wc ⟨rfl, hbc⟩
      have BC := bl BB hbc
      have CC := bl CB hbc
      clear hbc RA2 RB BB CB
      go_wp2_with fail
      refine (sameKeysEq a1 a l n n c1 c _ ⟨HK.out, rfl⟩ (K1.out.below BC) (HL.out.below CC) (by omega)).mono ?_
      rintro e wd ⟨rfl, hbd⟩
      have BD := bl BC hbd
      have CD := bl CC hbd
      clear hbd BC CC
      go_wp2_with fail
      refine (sameKeysEq a2 b l' n' n' c2 d _ ⟨HK'.out, rfl⟩ (K2.out.below BD) (HL'.out.below CD) (by omega)).mono ?_
      rintro e we ⟨rfl, hbe⟩
      have BE := bl BD hbe
      have CE := bl CD hbe
      clear hbe BD CD
      go_wp2_with fail
      refine (same_names a3 a' nm nm c3 c' we (R3.out.below BE) (HN.out.below CE) (by omega) (by omega)).mono ?_
      rw [show decide (nm = nm) = true by simp]
      rintro e wf ⟨rfl, hbf⟩
      have CF := bl CE hbf
      go_wp2_with fail
      refine (AW.out wf).mono ?_
      rintro e wg ⟨rfl, hbg⟩
      go_wp2_with fail
      go_ret
      exact ⟨rfl, bl CF hbg⟩

end Go.Proofs.Ytlhmipjbpbbcbaa
