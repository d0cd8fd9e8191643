/- The walks of the laws RankLooked, RankLog, RankOwn. -/
import Derived.Test.YtlhmipjbpbbcbaaRankQ
namespace Go.Proofs.Ytlhmipjbpbbcbaa
open Go.RowKit

set_option maxRecDepth 100000 in
set_option maxHeartbeats 1000000 in
theorem wRankLooked (a : Option Addr) (l : List Int) (c : Nat) (x : Int) (w : World) (h : Rd (.int .i64) w a l) (hm : l.length ≤ 9223372036854775807) :
    Calls Try.prog 5 #[.slice a l.length c, .int .i64 x] w fun e w' => e = .returned (.bool true) ∧ Below w.heap.size w w' := by
  have B0 := Below.refl w.heap.size w
  by_cases h2000 : 2000 < l.length
  · have A := Lib.hid (awake04 w)
    clear h
    go_enter Try.func5, Try.ntmps5
    go_wp2_with fail
    refine A.out.mono ?_
    rintro e w1 ⟨rfl, hb⟩
    go_wp2_with fail
    go_ret
    exact ⟨rfl, hb⟩
  · have CF := Lib.hid (fun (W : World) (hb : Below w.heap.size w W) => rFirst a l c x W (h.below hb) (by omega))
    have CA := Lib.hid (fun (W : World) (hb : Below w.heap.size w W) => rAbove a l c x W (h.below hb) (by omega))
    clear h
    have f1 := looked_facts (fun i => decide (x ≤ l.getD i 0)) l.length (by omega) (rkFirst l x) rfl
    have f2 := looked_facts (fun i => decide (x < l.getD i 0)) l.length (by omega) (rkAbove l x) rfl
    generalize rkFirst l x = p at *
    generalize rkAbove l x = q at *
    obtain ⟨p1, p2⟩ := p
    obtain ⟨q1, q2⟩ := q
    simp only at f1 f2
    obtain ⟨g1, g2, g3, g4, g5⟩ := f1
    obtain ⟨k1, k2, k3, k4, _⟩ := f2
    have CL := Lib.hid (rLog ((l.length : Int) + 1) w (by omega))
    generalize rkLog ((l.length : Int) + 1) = m at *
    have AW := Lib.hid awake04
    by_cases h0 : l.length = 0
    · have e1 : p2 = 0 := g4 h0
      have e2 : q2 = 0 := k4 h0
      subst e1 e2
      obtain rfl : p1 = 0 := by omega
      obtain rfl : q1 = 0 := by omega
      rw [h0] at CL CF CA ⊢
      clear h2000 g4 k4 h0
      go_enter Try.func5, Try.ntmps5
      go_wp2_with fail
      refine (CL.out).mono ?_
      rintro e w1 ⟨rfl, hb⟩
      have B1 := B0.trans (hb.mono (by first | exact B0.size | (have := B0.size; simp at this ⊢; omega)))
      clear hb
      go_wp2_with fail
      refine (CF.out w1 B1).mono ?_
      rintro e w2 ⟨rfl, hb⟩
      have B2 := B1.trans (hb.mono (by first | exact B1.size | (have := B1.size; simp at this ⊢; omega)))
      clear hb
      go_wp2_with fail
      refine (CA.out w2 B2).mono ?_
      rintro e w3 ⟨rfl, hb⟩
      have B3 := B2.trans (hb.mono (by first | exact B2.size | (have := B2.size; simp at this ⊢; omega)))
      clear hb

      go_wp2_with (go_at_call 15; refine (AW.out _).mono ?_; rintro e w4 ⟨rfl, hb⟩)
      go_ret
      exact ⟨rfl, B3.trans (hb.mono B3.size)⟩
    · have hpos : 0 < l.length := by omega
      have hd : decide (0 < l.length) = true := by simp [hpos]
      clear g4 k4 h0
      go_enter Try.func5, Try.ntmps5
      go_wp2_with fail
      refine (CL.out).mono ?_
      rintro e w1 ⟨rfl, hb⟩
      have B1 := B0.trans (hb.mono (by first | exact B0.size | (have := B0.size; simp at this ⊢; omega)))
      clear hb
      go_wp2_with fail
      refine (CF.out w1 B1).mono ?_
      rintro e w2 ⟨rfl, hb⟩
      have B2 := B1.trans (hb.mono (by first | exact B1.size | (have := B1.size; simp at this ⊢; omega)))
      clear hb
      go_wp2_with fail
      refine (CA.out w2 B2).mono ?_
      rintro e w3 ⟨rfl, hb⟩
      have B3 := B2.trans (hb.mono (by first | exact B2.size | (have := B2.size; simp at this ⊢; omega)))
      clear hb

      go_wp2_with (go_at_call 15; refine (AW.out _).mono ?_; rintro e w4 ⟨rfl, hb⟩)
      go_ret
      exact ⟨rfl, B3.trans (hb.mono B3.size)⟩

set_option maxRecDepth 100000 in
set_option maxHeartbeats 1000000 in
theorem wRankLog (n : Int) (w : World) (hn : n ≤ 9223372036854775807) :
    Calls Try.prog 7 #[.int .i64 n] w fun e w' => e = .returned (.bool true) ∧ Below w.heap.size w w' := by
  have AW := Lib.hid awake04
  by_cases h2 : n < 2
  · have C := rLog n w hn
    rw [show rkLog n = 0 by simp [rkLog, h2]] at C
    have CL := Lib.hid C
    clear C
    go_enter Try.func7, Try.ntmps7
    go_wp2_with fail
    refine CL.out.mono ?_
    rintro e w1 ⟨rfl, hb1⟩
    go_wp2_with fail
    refine (AW.out _).mono ?_
    rintro e w2 ⟨rfl, hb2⟩
    go_wp2_with fail
    go_ret
    exact ⟨rfl, hb1.trans (hb2.mono hb1.size)⟩
  · obtain ⟨h3, h4, h5, h6⟩ := rkLog_facts n (by omega) hn
    have CL := Lib.hid (rLog n w hn)
    have CT : Hid (n ≤ 2305843009213693952 → ∀ W : World, Calls Try.prog 24 #[.int .i64 (2 * n)] W fun e w' => e = .returned (.int .i64 ((rkLog n : Int) + 1)) ∧ Below W.heap.size W w') := by
      intro hh W
      have := rLog (2 * n) W (by omega)
      rw [rkLog_twice n (by omega) hh] at this
      exact this
    generalize rkLog n = k at *
    have p1 : 2 ^ k ≤ 2 ^ 63 := Nat.pow_le_pow_right (by decide) h4
    have p2 : 2 ^ (k - 1) ≤ 2 ^ 63 := Nat.pow_le_pow_right (by decide) (by omega)
    have e1 : IntKind.u64.wrap ((2 : Int) ^ k) = ((2 ^ k : Nat) : Int) := by rw [show ((2 : Int) ^ k) = ((2 ^ k : Nat) : Int) by simp]; exact IntWalk.u64_in _ ⟨Int.natCast_nonneg _, by omega⟩
    have e2 : IntKind.u64.wrap ((2 : Int) ^ (k - 1)) = ((2 ^ (k - 1) : Nat) : Int) := by rw [show ((2 : Int) ^ (k - 1)) = ((2 ^ (k - 1) : Nat) : Int) by simp]; exact IntWalk.u64_in _ ⟨Int.natCast_nonneg _, by omega⟩
    clear p1 p2
    generalize ((2 ^ k : Nat) : Int) = p at *
    generalize ((2 ^ (k - 1) : Nat) : Int) = q at *
    by_cases hbig : n ≤ 2305843009213693952
    · have C2 := Lib.hid (CT.out hbig)
      clear CT
      go_enter Try.func7, Try.ntmps7
      go_wp2_with fail
      refine CL.out.mono ?_
      rintro e w1 ⟨rfl, hb1⟩
      clear CL
      go_wp2_with fail
      refine (C2.out _).mono ?_
      rintro e w2 ⟨rfl, hb2⟩
      go_wp2_with fail
      refine (AW.out _).mono ?_
      rintro e w3 ⟨rfl, hb3⟩
      go_wp2_with fail
      go_ret
      exact ⟨rfl, (hb1.trans (hb2.mono hb1.size)).trans (hb3.mono (Nat.le_trans hb1.size hb2.size))⟩
    · clear CT
      go_enter Try.func7, Try.ntmps7
      go_wp2_with fail
      refine CL.out.mono ?_
      rintro e w1 ⟨rfl, hb1⟩
      clear CL
      go_wp2_with fail
      refine (AW.out _).mono ?_
      rintro e w3 ⟨rfl, hb3⟩
      go_wp2_with fail
      go_ret
      exact ⟨rfl, hb1.trans (hb3.mono hb1.size)⟩

set_option maxRecDepth 100000 in
set_option maxHeartbeats 1000000 in
theorem wRankOwn (a : Option Addr) (l : List Int) (c : Nat) (w : World) (h : Rd (.int .i64) w a l) (hm : l.length ≤ 9223372036854775807) :
    Calls Try.prog 8 #[.slice a l.length c] w fun e w' => e = .returned (.bool true) ∧ Below w.heap.size w w' := by
  have AW := Lib.hid awake04
  by_cases h200 : 200 < l.length
  · clear h
    go_enter Try.func8, Try.ntmps8
    go_wp2_with fail
    refine (AW.out w).mono ?_
    rintro e w1 ⟨rfl, hb⟩
    go_wp2_with fail
    go_ret
    exact ⟨rfl, hb⟩
  · have C1 := Lib.hid (copyLongs a l c w h (by omega))
    have H := Lib.hid h
    have hS := (sqz_facts l).2.2
    clear h
    go_enter Try.func8, Try.ntmps8
    go_wp2_with fail
    refine C1.out.mono ?_
    rintro e w1 ⟨v1, rfl, hown, hb1⟩
    obtain ⟨a1, c1, rfl, _, _, hr⟩ := Rd.of_owns hown
    have R1 := Lib.hid hr
    clear hr hown C1
    go_wp2_with fail
    refine (rSqueeze a1 l c1 w1 R1.out (by omega)).mono ?_
    rintro e w2 ⟨v2, rfl, hown, hb2⟩
    have hown2 := hown.2
    have hlen : (sqz l).length ≤ 1000000 := by omega
    generalize sqz l = s at *
    have B2 := hb1.trans (hb2.mono hb1.size)
    have R2 := Lib.hid (R1.out.below hb2)
    have R1' := R1
    clear R1
    rcases hown2 with ⟨rfl, h0⟩ | ⟨g, cap, cur, rfl, hg, hh, hcc, hm2, hs, htk⟩
    · rw [h0] at hlen
      go_wp2
      go_loopw [16] (fun i wr => i = .int .i64 0 ∧ Below w2.heap.size w2 wr) (fun _ _ => 0)
      case atStart => exact ⟨rfl, Below.refl _ _⟩
      case round =>
        obtain ⟨rfl, hb3⟩ := hrel
        go_wp2_with fail
        refine (same_longs a1 a l l c1 c _ (R2.out.below hb3) (H.out.below (B2.trans (hb3.mono B2.size))) (by omega) (by omega)).mono ?_
        rw [show decide (l = l) = true by simp]
        rintro e w4 ⟨rfl, hb4⟩
        go_wp2_with fail
        refine (AW.out w4).mono ?_
        rintro e w5 ⟨rfl, hb5⟩
        go_wp2_with fail
        go_ret
        have B3 := B2.trans (hb3.mono B2.size)
        have B4 := B3.trans (hb4.mono B3.size)
        exact ⟨rfl, B4.trans (hb5.mono B4.size)⟩
    · have HM : Hid (w1.heap.size ≤ g ∧ cap ≤ maxLen) := ⟨hg, hm2⟩
      have hlt := (Array.getElem?_eq_some_iff.1 hh).1
      clear hm2 hown
      go_wp2
      go_loopw [16] (fun i wr => ∃ (k : Nat) (cu : Array Value), i = .int .i64 k ∧ k ≤ s.length ∧ Hid (wr.heap[g]? = some (.cells cu 2 (0, 0))) ∧ s.length ≤ cu.size ∧ Below w1.heap.size w1 wr) (fun i _ => s.length - (intOf i).toNat)
      case atStart => exact ⟨0, cur, rfl, Nat.zero_le _, hh, by omega, hb2⟩
      case round =>
        obtain ⟨k, cu, rfl, hk, HH, hcu, hb3⟩ := hrel
        by_cases hkl : k < s.length
        · have hcell : wr.cell? ⟨g, k, none⟩ = some cu[k] := by
            unfold World.cell?
            simp only [HH.out]
            simp [show k < cu.size by omega]
          have hfr : wr.frozen? ⟨g, k, none⟩ = false := by
            unfold World.frozen?
            simp [HH.out]
          have HH2 : Hid ((wr.setCell ⟨g, k, none⟩ (.int .i64 7)).heap[g]? = some (.cells (cu.setIfInBounds k (.int .i64 7)) 2 (0, 0))) := by
            show (wr.heap.modify g _)[g]? = _
            rw [Array.getElem?_modify, if_pos rfl, HH.out]
            rfl
          generalize cu[k] = old at *
          clear htk hs R2 H
          go_wp2
          go_roundw
          case rel => exact ⟨k + 1, _, by go_num, by omega, HH2, by simp; omega, hb3.setCell HM.out.1 _⟩
          case measure => simp [intOf]; omega
        · obtain rfl : k = s.length := by omega
          have B3 := hb1.trans (hb3.mono hb1.size)
          have R3 : Hid (Rd (.int .i64) wr a1 l) := R1'.out.below hb3
          go_wp2_with fail
          refine (same_longs a1 a l l c1 c _ R3.out (H.out.below B3) (by omega) (by omega)).mono ?_
          rw [show decide (l = l) = true by simp]
          rintro e w4 ⟨rfl, hb4⟩
          go_wp2_with fail
          refine (AW.out w4).mono ?_
          rintro e w5 ⟨rfl, hb5⟩
          go_wp2_with fail
          go_ret
          have B4 := B3.trans (hb4.mono B3.size)
          exact ⟨rfl, B4.trans (hb5.mono B4.size)⟩

end Go.Proofs.Ytlhmipjbpbbcbaa
