/- The law CornerTurned, walked. -/
import Derived.Test.YthplgcakhniidaaGreatL12w
import Derived.Test.YthplgcakhniidaaGreatL12k
namespace Go.Proofs.YthplgcakhniidaaGreat
open Go.RowKit Go.Maps
attribute [local irreducible] wpQuiet
set_option linter.unusedSimpArgs false
set_option linter.unusedVariables false

/-- a point with X the other way round; with both coordinates exchanged -/
def bkP (p : Pt) : Pt := (-1 - p.1, p.2.1, p.2.2)
def otP (p : Pt) : Pt := (p.2.1, p.1, p.2.2)
theorem ids_map {g : Pt → Pt} (hg : ∀ p, (g p).2.2 = p.2.2) (l : List Pt) : ids (l.map g) = ids l := by
  unfold ids; rw [List.map_map]; exact List.map_congr_left fun p _ => hg p
theorem hasN_map {g : Pt → Pt} (hg : ∀ p, (g p).2.2 = p.2.2) {l : List Pt} {f f' : Pt → Bool} (h : ∀ p ∈ l, f' (g p) = f p) : hasN (l.map g) f' = hasN l f := by
  unfold hasN
  congr 1
  rw [List.filter_map]
  rw [ids_map hg]
  congr 1
  exact List.filter_congr fun p hp => h p hp
theorem unl_map {g : Pt → Pt} (hg : ∀ p, (g p).2.2 = p.2.2) (l : List Pt) : unl (l.map g) = unl l := by unfold unl; rw [ids_map hg]
theorem wf64_of {x : Int} (h : leastI ≤ x ∧ x ≤ mostI) : (Lit.int .i64 x).wf = true := by
  simp only [leastI, mostI] at h
  simp [Lit.wf, IntKind.min, IntKind.max, IntKind.signed, IntKind.bits]
  exact h
theorem wfL_bk {l : List Pt} (h : wfL l) : wfL (l.map bkP) := fun p hp => by
  obtain ⟨q, hq, rfl⟩ := List.mem_map.1 hp
  obtain ⟨h1, h2, h3⟩ := h q hq
  have := wf64 h1
  refine ⟨wf64_of ?_, h2, h3⟩
  simp only [leastI, mostI, bkP] at *
  omega
theorem wfL_ot {l : List Pt} (h : wfL l) : wfL (l.map otP) := fun p hp => by
  obtain ⟨q, hq, rfl⟩ := List.mem_map.1 hp
  obtain ⟨h1, h2, h3⟩ := h q hq
  exact ⟨h2, h1, h3⟩
theorem crn_bk (l : List Pt) (x y : Int) (wx wy : Bool) : hasN (l.map bkP) (crnF (-1 - x) y (!wx) wy) = hasN l (crnF x y wx wy) :=
  hasN_map (g := bkP) (fun _ => rfl) fun p _ => by
    cases wx <;> simp only [crnF, onN, bkP, Bool.not_true, Bool.not_false, if_true, if_false, Bool.false_eq_true] <;> congr 1 <;> refine decide_eq_decide.2 ?_ <;> omega
theorem crn_ot (l : List Pt) (x y : Int) (wx wy : Bool) : hasN (l.map otP) (crnF y x wy wx) = hasN l (crnF x y wx wy) :=
  hasN_map (g := otP) (fun _ => rfl) fun p _ => by
    simp only [crnF, otP]; rw [Bool.and_comm]
theorem flat_map_take {l : List Pt} {i : Nat} (hi : i < l.length) (g : Pt → Pt) : ((l.take (i + 1)).map g).flatMap ePt = ((l.take i).map g).flatMap ePt ++ ePt (g l[i]) := by
  rw [List.take_succ_eq_append_getElem hi, List.map_append, List.flatMap_append]
  simp

set_option maxRecDepth 100000 in
set_option maxHeartbeats 8000000 in
theorem wCornerTurned (a : Option Addr) (l : List Pt) (n c : Nat) (x y way : Int) (w : World) (hn : l.length = n) (h : RdK ePt 3 w a l) (hf : wfL l) (wx : (Lit.int .i64 x).wf = true) (wy : (Lit.int .i64 y).wf = true) (hway : (Lit.int .u8 way).wf = true) :
    Calls Tryz.prog 10 #[.slice a n c, .int .i64 x, .int .i64 y, .int .u8 way] w fun e w' => e = .returned (.bool true) ∧ Below w.heap.size w w' := by
  subst hn
  have h0 : 0 ≤ way := by simp [Lit.wf, IntKind.min, IntKind.max, IntKind.signed, IntKind.bits] at hway; omega
  have AW := Lib.hid (fun W => awake12 W)
  obtain ⟨M, e1⟩ : ∃ M, Int.tmod way 4 = M := ⟨_, rfl⟩
  obtain ⟨bx, b_y, hM⟩ : ∃ bx b_y : Bool, M = (if bx then 1 else 0) + (if b_y then 2 else 0) := by
    have h1 : 0 ≤ M := by rw [← e1]; exact Int.tmod_nonneg 4 h0
    have h2 : M < 4 := by rw [← e1]; exact Int.tmod_lt_of_pos way (by decide)
    exact ⟨_, _, way_eq h1 h2⟩
  obtain ⟨A, e3⟩ : ∃ A, Int.tmod M 2 = A := ⟨_, rfl⟩
  obtain ⟨B, e4⟩ : ∃ B, Int.tdiv M 2 = B := ⟨_, rfl⟩
  obtain ⟨X, e5⟩ : ∃ X, bits .xor .u8 M 1 = X := ⟨_, rfl⟩
  have hA : A = (if bx then 1 else 0) := by subst hM; rw [← e3]; cases bx <;> cases b_y <;> rfl
  have hB : B = (if b_y then 1 else 0) := by subst hM; rw [← e4]; cases bx <;> cases b_y <;> rfl
  have hX : X = (if !bx then 1 else 0) + (if b_y then 2 else 0) := by subst hM; rw [← e5]; cases bx <;> cases b_y <;> decide
  have hA2 : 0 ≤ A ∧ A ≤ 1 := by rw [hA]; cases bx <;> decide
  have hB2 : 0 ≤ B ∧ B ≤ 1 := by rw [hB]; cases b_y <;> decide
  have HMM := Lib.hid hM
  have HX := Lib.hid hX
  have HAB : Hid (A * 2 + B = (if b_y then 1 else 0) + (if bx then 2 else 0)) := Lib.hid (by rw [hA, hB]; cases bx <;> cases b_y <;> decide)
  have bx0 := wf64 wx
  simp only [leastI, mostI] at bx0
  clear hM hA hB hX wx wy hway h0
  have HR := Lib.hid h
  have HWL := Lib.hid hf
  clear h hf
  by_cases hlen : l.length ≤ 80
  · have dl : decide (80 < (l.length : Int)) = false := by simp; omega
    go_enter Tryz.func10, Tryz.ntmps10
    go_wp2
    go_loopw [9, 10, 33] (fun bv ov iv wr => ∃ (i : Nat), iv = .int .i64 i ∧ i ≤ l.length ∧ Hid (wr.ownsRow w.heap.size 34 3 bv i (((l.take i).map bkP).flatMap ePt)) ∧ Hid (wr.ownsRow w.heap.size 34 3 ov i (((l.take i).map otP).flatMap ePt)) ∧ Hid (∀ g, bv.ownBlock = some g → ov.ownBlock ≠ some g) ∧ Below w.heap.size w wr) (fun _ _ iv _ => l.length - (intOf iv).toNat)
    case atStart => exact ⟨0, rfl, Nat.zero_le _, by simp; exact World.ownsRow_nil _ _ _ _, by simp; exact World.ownsRow_nil _ _ _ _, Lib.hid (fun g h => by simp [Value.ownBlock] at h), Below.refl _ _⟩
    case round =>
      obtain ⟨i, rfl, hi, HO, HQ, HD, hb⟩ := hrel
      obtain ⟨bv, ebv⟩ : ∃ bv, bv = u9 := ⟨_, rfl⟩
      obtain ⟨ov, eov⟩ : ∃ ov, ov = u10 := ⟨_, rfl⟩
      subst ebv eov
      by_cases hlt : i < l.length
      · obtain ⟨b2, off, ea, hbl, hcs⟩ := (HR.out.below hb).get (by omega)
        have x0 := hcs i hlt 0 (by omega)
        have x1 := hcs i hlt 1 (by omega)
        have x2 := hcs i hlt 2 (by omega)
        simp only [ePt, List.getElem?_cons_zero, List.getElem?_cons_succ, Nat.add_zero] at x0 x1 x2
        have EA := Lib.hid ea
        have F1 := Lib.hid (flat_map_take hlt bkP)
        have F2 := Lib.hid (flat_map_take hlt otP)
        have hwq := wf64 (HWL.out l[i] (List.getElem_mem _)).1
        simp only [leastI, mostI] at hwq
        clear hcs ea
        generalize l[i] = q at *
        obtain ⟨q1, q2, q3⟩ := q
        simp only at x0 x1 x2 hwq
        have hkl2 : (i : Int) < (l.length : Int) := by omega
        obtain rfl := EA.out
        clear EA
        obtain ⟨w4, ew4⟩ : ∃ w4, w4 = wr.alloc (.cells #[.int .i64 q1, .int .i64 q2, .int .u32 q3] 34) := ⟨_, rfl⟩
        have b4 : Below wr.heap.size wr w4 := by rw [ew4]; exact (Below.refl _ _).alloc (Nat.le_refl _) _
        have X4 : w4.heap[wr.heap.size]? = some (obP (q1, q2, q3)) := by rw [ew4]; exact lit0 _ _
        have hs4 : wr.heap.size < w4.heap.size := (Array.getElem?_eq_some_iff.1 X4).1
        have B4 := hb.trans (b4.mono hb.size)
        have HO4 := Lib.hid (ownsRow_below HO.out b4)
        have HQ4 := Lib.hid (ownsRow_below HQ.out b4)
        have ho4 : ∀ g, bv.ownBlock = some g → g < wr.heap.size := fun g hg => (HO.out.lt g hg).2
        have hq4 : ∀ g, ov.ownBlock = some g → g < wr.heap.size := fun g hg => (HQ.out.lt g hg).2
        have HOL := Lib.hid ho4
        have HQL := Lib.hid hq4
        have EX := ew4.symm
        obtain ⟨y0, y1, y2⟩ := obP_cells X4
        have hbs4 : w.heap.size ≤ w4.heap.size := B4.size
        have HX4 := Lib.hid X4
        have HB4 := Lib.hid B4
        have hh1 : i + 1 ≤ maxLen := by unfold maxLen; omega
        have hh2 : (i + 1) * 24 ≤ 140737488355328 := by omega
        clear ew4 b4 HO HQ ho4 hq4 X4 B4
        go_wp2_with (first
          | (at_builtin; refine wp_append1B elPt10 w.heap.size HO4.out [.int .i64 (-1 - q1), .int .i64 q2, .int .u32 q3] rfl (by simp [Value.oneCell']) rfl _ _ rfl rfl _ rfl hh1 hh2 hbs4 ?_; intro v5 w5 hown5 hg5 hbk5; have K5 := ((KpS.refl (fun k => bv.ownBlock = some k) w4).grown hg5 (fun k hk => .inl hk)); have X5 := blkK K5 HX4.out (fun h => Nat.lt_irrefl _ (HOL.out _ h)); obtain ⟨z0, z1, z2⟩ := obP_cells X5; have HQ5 := Lib.hid (rowK HQ4.out K5 (fun gb e h => HD.out gb h e)); have b5 := below_grown HB4.out HO4.out hg5 hbs4 (Nat.le_refl _); have hs5 := b5.size; have HBK5 := Lib.hid hbk5; have HV5 := Lib.hid hown5; have HK5 := Lib.hid K5.size; clear y0 y1 y2 EX X5 K5 hbk5 hown5 hg5)
          | (at_builtin; refine wp_append1B elPt10 w.heap.size HQ5.out [.int .i64 q2, .int .i64 q1, .int .u32 q3] rfl (by simp [Value.oneCell']) rfl _ _ rfl rfl _ rfl hh1 hh2 hs5 ?_; intro v6 w6 hown6 hg6 hbk6))
        have HD5 : ∀ g, v5.ownBlock = some g → ov.ownBlock ≠ some g := fun g hg => by
          rcases blkOf_alloc HBK5.out with h | ⟨b, h, hb⟩
          · exact HD.out g (h ▸ hg)
          · intro e
            have h1 := HQL.out g e
            rw [h] at hg
            injection hg with hg
            omega
        have K6 := ((KpS.refl (fun k => ov.ownBlock = some k) w5).grown hg6 (fun k hk => .inl hk))
        have HO6 := rowK HV5.out K6 (fun gb e h => HD5 gb e h)
        have HD6 : ∀ g, v5.ownBlock = some g → v6.ownBlock ≠ some g := fun g hg => by
          rcases blkOf_alloc hbk6 with h | ⟨b, h, hb⟩
          · rw [h]; exact HD5 g hg
          · intro e
            have h1 := (HV5.out.lt g hg).2
            rw [h] at e
            injection e with e
            omega
        have b6 := below_grown b5 HQ5.out hg6 hs5 (Nat.le_refl _)
        exact ⟨⟨i + 1, by go_num, by omega, Lib.hid (F1.out ▸ HO6), Lib.hid (F2.out ▸ hown6), Lib.hid HD6, b6⟩, by simp [intOf]; omega⟩
      · obtain rfl : i = l.length := by omega
        have HO1 : wr.ownsRow w.heap.size 34 3 bv (l.map bkP).length ((l.map bkP).flatMap ePt) := by have h9 := HO.out; rw [List.take_length] at h9; rw [List.length_map]; exact h9
        have HQ1 : wr.ownsRow w.heap.size 34 3 ov (l.map otP).length ((l.map otP).flatMap ePt) := by have h9 := HQ.out; rw [List.take_length] at h9; rw [List.length_map]; exact h9
        obtain ⟨ab, kb, rfl, -, -, hrb⟩ := RdK.of_owns ePt_len (by decide) HO1
        obtain ⟨ao, ko, rfl, -, -, hro⟩ := RdK.of_owns ePt_len (by decide) HQ1
        have EB := Lib.hid (crn_bk l x y bx b_y)
        have EO := Lib.hid (crn_ot l x y bx b_y)
        have WB := Lib.hid (wfL_bk HWL.out)
        have WO := Lib.hid (wfL_ot HWL.out)
        have UB := Lib.hid (unl_map (g := bkP) (fun _ => rfl) l)
        have UO := Lib.hid (unl_map (g := otP) (fun _ => rfl) l)
        have lb : (l.map bkP).length ≤ 80 := by simpa using hlen
        have lo : (l.map otP).length ≤ 80 := by simpa using hlen
        have HRB := Lib.hid hrb
        have HRO := Lib.hid hro
        have NB := Lib.hid (show wfN (l.map bkP) from fun p hp => (WB.out p hp).2.2)
        have NO := Lib.hid (show wfN (l.map otP) from fun p hp => (WO.out p hp).2.2)
        have NL := Lib.hid (show wfN l from fun p hp => (HWL.out p hp).2.2)
        have HRL := Lib.hid (HR.out.below hb)
        have hgl := hasN_few l (crnF x y bx b_y)
        clear HO HQ HO1 HQ1 HD hrb hro
        generalize hLB : l.map bkP = LB at *
        generalize hLO : l.map otP = LO at *
        clear hLB hLO
        rcases Bool.eq_false_or_eq_true (unl l) with hu | hu
        · have HU := Lib.hid hu
          clear hu
          go_wp2_with fail
          refine (coBuild a c l wr HRL.out (by omega) NL.out HU.out).mono ?_
          rintro e w1 ⟨t1, rfl, T1, hb1⟩
          have RB1 := Lib.hid (HRB.out.below hb1)
          have RO1 := Lib.hid (HRO.out.below hb1)
          have B1 := hb.trans (hb1.mono hb.size)
          have HT1 := Lib.hid T1
          clear T1 hb1 HRB HRO HRL hb
          go_wp2_with fail
          refine (coBuild ab kb LB w1 RB1.out (by omega) NB.out (UB.out.trans HU.out)).mono ?_
          rintro e w2 ⟨t2, rfl, T2, hb2⟩
          have RO2 := Lib.hid (RO1.out.below hb2)
          have B2 := B1.trans (hb2.mono B1.size)
          have HT1b := Lib.hid (HT1.out.below hb2 HT1.out.hi_le)
          have HT2 := Lib.hid T2
          clear T2 hb2 RB1 RO1 B1 HT1
          go_wp2_with fail
          refine (coBuild ao ko LO w2 RO2.out (by omega) NO.out (UO.out.trans HU.out)).mono ?_
          rintro e w3 ⟨t3, rfl, T3, hb3⟩
          have B3 := B2.trans (hb3.mono B2.size)
          have HT1c := Lib.hid (HT1b.out.below hb3 HT1b.out.hi_le)
          have HT2b := Lib.hid (HT2.out.below hb3 HT2.out.hi_le)
          have HT3 := Lib.hid T3
          clear T3 hb3 RO2 B2 HT1b HT2
          go_wp2_with fail
          refine (coReport HT1c.out HWL.out x y bx b_y M HMM.out).mono ?_
          rintro e w4 ⟨v4, c4, rfl, -, hown4, hb4⟩
          obtain ⟨a4, k4, rfl, -, -, hr4⟩ := Rd.of_owns hown4
          have B4 := B3.trans (hb4.mono B3.size)
          have T2 := Lib.hid (HT2b.out.below hb4 HT2b.out.hi_le)
          have T3 := Lib.hid (HT3.out.below hb4 HT3.out.hi_le)
          have R4 := Lib.hid hr4
          clear HT1c HT2b HT3 B3 hown4 hr4 hb4
          go_wp2_with fail
          have c5 := coReport T2.out WB.out (-1 - x) y (!bx) b_y X HX.out
          rw [EB.out] at c5
          refine c5.mono ?_
          rintro e w5 ⟨v5, q5, rfl, -, hown5, hb5⟩
          obtain ⟨a5, k5, rfl, -, -, hr5⟩ := Rd.of_owns hown5
          have B5 := B4.trans (hb5.mono B4.size)
          have T3' := Lib.hid (T3.out.below hb5 T3.out.hi_le)
          have R4' := Lib.hid (R4.out.below hb5)
          have R5 := Lib.hid hr5
          clear c5 T2 T3 R4 B4 hown5 hr5 hb5
          go_wp2_with fail
          have c6 := coReport T3'.out WO.out y x b_y bx (A * 2 + B) HAB.out
          rw [EO.out] at c6
          refine c6.mono ?_
          rintro e w6 ⟨v6, q6, rfl, -, hown6, hb6⟩
          obtain ⟨a6, k6, rfl, -, -, hr6⟩ := Rd.of_owns hown6
          have B6 := B5.trans (hb6.mono B5.size)
          have R4 := Lib.hid (R4'.out.below hb6)
          have R5' := Lib.hid (R5.out.below hb6)
          have R6 := Lib.hid hr6
          clear c6 T3' R4' R5 B5 hown6 hr6 hb6 EB EO
          generalize hasN l (crnF x y bx b_y) = N at *
          go_wp2_with fail
          refine (same12 a4 a5 N N _ _ k4 k5 w6 rfl rfl R4.out R5'.out (by omega) (by omega)).mono ?_
          rintro e w7 ⟨rfl, hb7⟩
          have B7 := B6.trans (hb7.mono B6.size)
          have R4' := Lib.hid (R4.out.below hb7)
          have R6' := Lib.hid (R6.out.below hb7)
          have hdt : decide (N = N) = true := by simp
          clear R4 R5' R6 B6 hb7
          go_wp2_with fail
          refine (same12 a4 a6 N N _ _ k4 k6 w7 rfl rfl R4'.out R6'.out (by omega) (by omega)).mono ?_
          rintro e w8 ⟨rfl, hb8⟩
          have B8 := B7.trans (hb8.mono B7.size)
          clear R4' R6' B7 hb8
          go_wp2_with (go_at_call 32; refine (AW.out _).mono ?_; rintro e w9 ⟨rfl, hb9⟩)
          go_ret
          exact ⟨rfl, B8.trans (hb9.mono B8.size)⟩
        · have HU := Lib.hid hu
          clear hu
          go_wp2_with fail
          refine (coBuild_bad a c l wr HRL.out (by omega) NL.out HU.out).mono ?_
          rintro e w1 ⟨rfl, hb1⟩
          have RB1 := Lib.hid (HRB.out.below hb1)
          have RO1 := Lib.hid (HRO.out.below hb1)
          have B1 := hb.trans (hb1.mono hb.size)
          clear hb1 HRB HRO HRL hb
          go_wp2_with fail
          refine (coBuild_bad ab kb LB w1 RB1.out (by omega) NB.out (UB.out.trans HU.out)).mono ?_
          rintro e w2 ⟨rfl, hb2⟩
          have RO2 := Lib.hid (RO1.out.below hb2)
          have B2 := B1.trans (hb2.mono B1.size)
          clear hb2 RB1 RO1 B1
          go_wp2_with fail
          refine (coBuild_bad ao ko LO w2 RO2.out (by omega) NO.out (UO.out.trans HU.out)).mono ?_
          rintro e w3 ⟨rfl, hb3⟩
          have B3 := B2.trans (hb3.mono B2.size)
          clear hb3 RO2 B2
          go_wp2_with fail
          refine (cn_Report_no none (.inl rfl) x y M (.inl rfl)).mono ?_
          rintro e w4 ⟨rfl, rfl⟩
          go_wp2_with fail
          refine (cn_Report_no none (.inl rfl) (-1 - x) y X (.inl rfl)).mono ?_
          rintro e w5 ⟨rfl, rfl⟩
          go_wp2_with fail
          refine (cn_Report_no none (.inl rfl) y x (A * 2 + B) (.inl rfl)).mono ?_
          rintro e w6 ⟨rfl, rfl⟩
          go_wp2_with fail
          refine (same12 none none [] [] 0 0 0 0 _ rfl rfl .nil .nil (by omega) (by omega)).mono ?_
          rintro e w7 ⟨rfl, hb7⟩
          have B7 := B3.trans (hb7.mono B3.size)
          have hdt : decide (([] : List Int) = []) = true := by simp
          go_wp2_with fail
          refine (same12 none none [] [] 0 0 0 0 _ rfl rfl .nil .nil (by omega) (by omega)).mono ?_
          rintro e w8 ⟨rfl, hb8⟩
          have B8 := B7.trans (hb8.mono B7.size)
          go_wp2_with (go_at_call 32; refine (AW.out _).mono ?_; rintro e w9 ⟨rfl, hb9⟩)
          go_ret
          exact ⟨rfl, B8.trans (hb9.mono B8.size)⟩
  · have dl : decide (80 < (l.length : Int)) = true := by simp; omega
    go_enter Tryz.func10, Tryz.ntmps10
    go_wp2_with (go_at_call 32; refine (AW.out _).mono ?_; rintro e w3 ⟨rfl, hb3⟩)
    go_ret
    exact ⟨rfl, hb3⟩
end Go.Proofs.YthplgcakhniidaaGreat
