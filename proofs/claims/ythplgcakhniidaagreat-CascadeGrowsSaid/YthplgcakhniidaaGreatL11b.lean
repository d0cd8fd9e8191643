/- The law CascadeBound, walked. -/
import Derived.Test.YthplgcakhniidaaGreatL11c
import Derived.Test.YthplgcakhniidaaGreatQ7
namespace Go.Proofs.YthplgcakhniidaaGreat
open Go.RowKit Go.Maps
attribute [local irreducible] wpQuiet
set_option linter.unusedSimpArgs false
set_option linter.unusedVariables false

set_option maxRecDepth 100000 in
set_option maxHeartbeats 8000000 in
theorem wCascadeBound (a : Option Addr) (l : List Pt) (n c : Nat) (ab : Option Addr) (BL : List Bx) (nb cb : Nat) (b : Option Addr) (D : List Int) (m c' : Nat) (w : World) (hn : l.length = n) (h : RdK ePt 3 w a l) (hf : ∀ p ∈ l, (Lit.int .i64 p.1).wf = true ∧ (Lit.int .i64 p.2.1).wf = true ∧ (Lit.int .u32 p.2.2).wf = true)
    (hnb : BL.length = nb) (hB : RdK eBx 5 w ab BL) (hcb : nb ≤ cb ∧ cb ≤ maxLen) (hm : D.length = m) (h' : Rd (.int .u8) w b D) (hc' : m ≤ c' ∧ c' ≤ maxLen) (hD : ∀ x ∈ D, (Lit.int .u8 x).wf = true) :
    Calls Tryz.prog 7 #[.slice a n c, .slice ab nb cb, .slice b m c'] w fun e w' => e = .returned (.bool true) ∧ Below w.heap.size w w' := by
  subst hn hm hnb
  have hw : wfN l := fun p hp => (hf p hp).2.2
  have AW := Lib.hid (fun W => awake11 W)
  by_cases hlen : l.length ≤ 250
  · have dl : decide (250 < (l.length : Int)) = false := by simp; omega
    rcases Bool.eq_false_or_eq_true (unl l) with hu | hu
    · have cd := Lib.hid (dropped11_ok a b l D _ _ c c' w rfl rfl hc' h h' hD (by omega) hw hu)
      have HB := Lib.hid hB
      have hcb1 := hcb.1
      have cl := Lib.hid (fun W => rLog ((l.length : Int) + 1) W (by omega))
      have hlg := rkLog_succ l.length (by omega)
      have hl2 : Lib.bitLen l.length ≤ 8 := Nat.le_trans (bitLen_mono hlen (by omega)) (by decide)
      generalize rkLog ((l.length : Int) + 1) = K at *
      have HCB := Lib.hid hcb1
      clear hD hw hf h h' hB hcb hu hcb1
      obtain ⟨mb, hmb, hmb1, hmb2⟩ : ∃ m : Nat, min (BL.length : Int) 20 = (m : Int) ∧ m ≤ BL.length ∧ m ≤ 20 := ⟨min BL.length 20, by omega, by omega, by omega⟩
      go_enter Tryz.func7, Tryz.ntmps7
      go_wp2_with (first
        | (go_at_call 21; refine cd.out.mono ?_; rintro e w2 ⟨tb, lo, hi, l', rfl, T2, hlo, hb2⟩)
        | (go_at_call 30; refine (cl.out _).mono ?_; rintro e w3 ⟨rfl, hb3⟩)
        | (refine wp_sliceK elBx (HB.out.below (hb2.trans (hb3.mono hb2.size))) HCB.out 0 mb (Nat.zero_le _) hmb1 rfl _ _ _ rfl rfl rfl rfl ?_; intro ad hr; simp only [Nat.sub_zero, List.drop_zero] at hr ⊢))
      have B3 := hb2.trans (hb3.mono hb2.size)
      have T3 := T2.below hb3 T2.hi_le
      have hPl : (BL.take mb).length = mb := by simp; omega
      have HPR := Lib.hid hr
      clear hr T2 hb2 hb3 cd cl hmb HB HCB hmb1
      generalize BL.take mb = P at *
      subst hPl
      have hTt := T3.few
      have TR := Lib.hid (fun (W : World) (hT : TreeAt W lo hi tb l.length l') x1 x2 y1 y2 bi => tReport hT x1 x2 y1 y2 bi)
      have TC := Lib.hid (fun (W : World) (hT : TreeAt W lo hi tb l.length l') x1 x2 y1 y2 bi => tCount hT x1 x2 y1 y2 bi)
      have HT3 := Lib.hid T3
      generalize Lib.bitLen l.length = K at *
      clear T3
      go_loopw [41] (fun kv wr => ∃ k : Nat, kv = .int .i64 k ∧ k ≤ P.length ∧ Below w3.heap.size w3 wr) (fun kv _ => P.length - (intOf kv).toNat)
      case atStart => exact ⟨0, rfl, Nat.zero_le _, Below.refl _ _⟩
      case round =>
        obtain ⟨k, rfl, hk, hb⟩ := hrel
        by_cases hkl : k < P.length
        · have BR := B3.trans (hb.mono B3.size)
          obtain ⟨b2, off, ea, hbl, hcs⟩ := (HPR.out.below hb).get (by omega)
          have x0 := hcs k hkl 0 (by omega)
          have x1 := hcs k hkl 1 (by omega)
          have x2 := hcs k hkl 2 (by omega)
          have x3 := hcs k hkl 3 (by omega)
          have x4 := hcs k hkl 4 (by omega)
          simp only [eBx, List.getElem?_cons_zero, List.getElem?_cons_succ, Nat.add_zero] at x0 x1 x2 x3 x4
          have EA := Lib.hid ea
          clear hcs ea
          generalize P[k] = q at *
          obtain ⟨q1, q2, q3, q4, q5⟩ := q
          simp only at x0 x1 x2 x3 x4
          have hkl2 : (k : Int) < (P.length : Int) := by omega
          obtain rfl := EA.out
          clear EA
          have TA := HT3.out.below hb HT3.out.hi_le
          obtain ⟨w4, ew4⟩ : ∃ w4, w4 = wr.alloc (.cells #[.int .i64 q1, .int .i64 q2, .int .i64 q3, .int .i64 q4, .int .u32 q5] 39) := ⟨_, rfl⟩
          have b4 : Below wr.heap.size wr w4 := by rw [ew4]; exact (Below.refl _ _).alloc (Nat.le_refl _) _
          have X4 : w4.heap[wr.heap.size]? = some (objBx (q1, q2, q3, q4, q5)) := by rw [ew4]; exact lit0 _ _
          have hs4 : wr.heap.size < w4.heap.size := (Array.getElem?_eq_some_iff.1 X4).1
          have B4 := BR.trans (b4.mono BR.size)
          have hb4 := hb.trans (b4.mono hb.size)
          have T4 := TA.below b4 TA.hi_le
          have EX := ew4.symm
          obtain ⟨y0, y1, y2, y3, y4⟩ := objBx_cells X4
          clear ew4 TA
          have c4 := Lib.hid (TR.out w4 T4 q1 q2 q3 q4 q5)
          clear b4
          go_wp2_with (go_at_call 24; (try rw [EX]); refine c4.out.mono ?_; rintro e w5 ⟨v5, t5, rfl, ht5, hown5, hb5⟩; have B5 := B4.trans (hb5.mono B4.size); have hb35 := hb4.trans (hb5.mono hb4.size); have X5 := (hb5.block _ hs4).trans X4; obtain ⟨z0, z1, z2, z3, z4⟩ := objBx_cells X5; obtain ⟨a5, k5, rfl, -, -, -⟩ := Rd.of_owns hown5; rw [hasB_len] at *; clear hown5 EX x0 x1 x2 x3 x4 y0 y1 y2 y3 y4)
          have T5 := T4.below hb5 T4.hi_le
          refine (TC.out w5 T5 q1 q2 q3 q4 q5).mono ?_
          rintro e w6 ⟨⟨t6, rfl, ht6⟩, hb6⟩
          have B6 := B5.trans (hb6.mono B5.size)
          have hb36 := hb35.trans (hb6.mono hb35.size)
          have hg : (l'.filter (inB q1 q2 q3 q4)).length ≤ 20000 := by have := List.length_filter_le (inB q1 q2 q3 q4) l'; omega
          generalize (l'.filter (inB q1 q2 q3 q4)).length = g at *
          clear T5 T4 hb6 hb5 B5 hb35 z0 z1 z2 z3 z4 X5 X4 c4 hb4 B4 BR
          have e1 : ¬ ((t5 : Int) + (g : Int) < (g : Int)) := by omega
          have e2 : ¬ ((g : Int) + (8 * (K : Int) + 8) < (t5 : Int) + (g : Int)) := by omega
          have e3 : ¬ ((t6 : Int) < 0) := by omega
          have e4 : ¬ (8 * (K : Int) + 8 < (t6 : Int)) := by omega
          go_wp2
          exact ⟨⟨k + 1, by go_num, by omega, hb36⟩, by simp [intOf]; omega⟩
        · obtain rfl : k = P.length := by omega
          have BR := B3.trans (hb.mono B3.size)
          go_wp2_with (go_at_call 20; refine (AW.out _).mono ?_; rintro e w9 ⟨rfl, hb9⟩)
          go_ret
          exact ⟨rfl, BR.trans (hb9.mono BR.size)⟩
    · have cd := Lib.hid (dropped11_bad a b l D _ _ c c' w rfl rfl h h' (by omega) hw hu)
      clear hD hw hu hf
      go_enter Tryz.func7, Tryz.ntmps7
      go_wp2_with (first
        | (go_at_call 21; refine cd.out.mono ?_; rintro e w2 ⟨rfl, hb2⟩)
        | (go_at_call 20; refine (AW.out _).mono ?_; rintro e w3 ⟨rfl, hb3⟩))
      go_ret
      exact ⟨rfl, hb2.trans (hb3.mono hb2.size)⟩
  · have dl : decide (250 < (l.length : Int)) = true := by simp; omega
    go_enter Tryz.func7, Tryz.ntmps7
    go_wp2_with (go_at_call 20; refine (AW.out _).mono ?_; rintro e w3 ⟨rfl, hb3⟩)
    go_ret
    exact ⟨rfl, hb3⟩
end Go.Proofs.YthplgcakhniidaaGreat
