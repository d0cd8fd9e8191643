/- The law BandSplit, walked. -/
import Derived.Test.YthpgkldpbbajfaaGreatL10p
import Derived.Test.YthpgkldpbbajfaaGreatQ7
import Derived.Test.YthpgkldpbbajfaaGreatQ5
import Derived.Test.YthpgkldpbbajfaaGreatQ3
namespace Go.Proofs.YthpgkldpbbajfaaGreat
open Go.RowKit Go.Maps
attribute [local irreducible] wpQuiet
set_option linter.unusedSimpArgs false
set_option linter.unusedVariables false

theorem wf64v {x : Int} (h : (Lit.int .i64 x).wf = true) : -9223372036854775808 ≤ x ∧ x ≤ 9223372036854775807 := by
  simp [Lit.wf, IntKind.min, IntKind.max, IntKind.signed, IntKind.bits] at h
  exact h
/-- a list cut in two by two tests -/
theorem filt_twoV {α : Type} {f g h : α → Bool} : ∀ {l : List α}, (∀ q ∈ l, h q = (f q || g q)) → (∀ q ∈ l, f q = true → g q = false) → (l.filter f ++ l.filter g).Perm (l.filter h)
  | [], _, _ => .refl _
  | q :: l, hh, hd => by
    have ih := filt_twoV (l := l) (fun x hx => hh x (.tail _ hx)) (fun x hx => hd x (.tail _ hx))
    have h1 := hh q (.head _)
    have h2 := hd q (.head _)
    rcases Bool.eq_false_or_eq_true (f q) with e | e <;> rcases Bool.eq_false_or_eq_true (g q) with e' | e' <;> simp only [e, e', Bool.or_true, Bool.true_or, Bool.or_false, Bool.false_or, Bool.or_self] at h1 h2 <;> simp only [List.filter_cons, e, e', h1, if_true, Bool.false_eq_true, if_false]
    · simp at h2
    · exact ih.cons q
    · exact List.perm_middle.trans (ih.cons q)
    · exact ih
theorem two_perm {l : List Pt} {f g h : Pt → Bool} (hh : ∀ q ∈ l, h q = (f q || g q)) (hd : ∀ q ∈ l, f q = true → g q = false) : (srtI (ids (l.filter f)) ++ srtI (ids (l.filter g))).Perm (srtI (ids (l.filter h))) := by
  have e : (ids (l.filter f) ++ ids (l.filter g)).Perm (ids (l.filter h)) := by
    unfold ids
    rw [← List.map_append]
    exact (filt_twoV hh hd).map _
  exact ((List.mergeSort_perm _ _).append (List.mergeSort_perm _ _)).trans (e.trans (List.mergeSort_perm _ _).symm)
/-- what a counting map answers -/
theorem cnt_at10 {H : Type} {D : DataW H} {L ks : List Int} (hD : IsM .u32 .i64 D (cntF L) ks) (x cc : Int) (hat : D.atKey (.int .u32 x) (.lit (.int .i64 0)) = .lit (.int .i64 cc)) : (L.count x : Int) = cc := by
  rw [(hD.2.2.2.2 x).2] at hat
  unfold cntF at hat
  by_cases hin : x ∈ L
  · rw [if_pos hin] at hat
    simpa using hat
  · rw [if_neg hin] at hat
    rw [List.count_eq_zero.2 hin]
    simpa using hat
theorem grown_of10 {w w' : World} (h : Below w.heap.size w w') : w.grownBy w' none := ⟨h.os, h.tape, h.output, h.size, fun k hk _ => h.block k hk⟩
/-- the parts of a box -/
def cutA (wide : Bool) (b : Bx) (x : Int) : Bx := if wide then (b.1, x, b.2.2.1, b.2.2.2.1, b.2.2.2.2) else (b.1, b.2.1, b.2.2.1, x, b.2.2.2.2)
def cutB (wide : Bool) (b : Bx) (x : Int) : Bx := if wide then (x + 1, b.2.1, b.2.2.1, b.2.2.2.1, b.2.2.2.2) else (b.1, b.2.1, x + 1, b.2.2.2.1, b.2.2.2.2)
theorem split10_is (wide : Bool) (x1 x2 y1 y2 bi x : Int) (hx : -9223372036854775808 ≤ x ∧ x < 9223372036854775807) (w : World) :
    Calls Tryz.prog 35 #[.agg #[.int .i64 x1, .int .i64 x2, .int .i64 y1, .int .i64 y2, .int .u32 bi], .int .i64 x, .bool wide] w fun e w' => e = .returned (.tuple #[vBx (cutA wide (x1, x2, y1, y2, bi) x), vBx (cutB wide (x1, x2, y1, y2, bi) x)]) ∧ Below w.heap.size w w' := by
  cases wide
  · exact split10_high x1 x2 y1 y2 bi x hx w
  · exact split10_wide x1 x2 y1 y2 bi x hx w
abbrev hasX10 (l : List Pt) (b : Bx) : List Int := hasB l b.1 b.2.1 b.2.2.1 b.2.2.2.1
theorem cut_two (l : List Pt) (wide : Bool) (b : Bx) (x : Int) (hx : if wide then b.1 ≤ x ∧ x < b.2.1 else b.2.2.1 ≤ x ∧ x < b.2.2.2.1) : (hasX10 l (cutA wide b x) ++ hasX10 l (cutB wide b x)).Perm (hasX10 l b) := by
  have h := two_perm (l := l) (f := inB (cutA wide b x).1 (cutA wide b x).2.1 (cutA wide b x).2.2.1 (cutA wide b x).2.2.2.1) (g := inB (cutB wide b x).1 (cutB wide b x).2.1 (cutB wide b x).2.2.1 (cutB wide b x).2.2.2.1) (h := inB b.1 b.2.1 b.2.2.1 b.2.2.2.1)
    (fun q _ => by
      cases wide <;> simp only [cutA, cutB, inB, if_true, if_false, Bool.false_eq_true] at hx ⊢ <;> rw [← Bool.decide_or, decide_eq_decide] <;> omega)
    (fun q _ h => by
      cases wide <;> simp only [cutA, cutB, inB, if_true, if_false, Bool.false_eq_true, decide_eq_true_eq, decide_eq_false_iff_not] at hx h ⊢ <;> omega)
  exact h
theorem hasX10_nodup {l : List Pt} (hu : unl l = true) (b : Bx) : (hasX10 l b).Nodup := by
  have hu' : (ids l).Nodup := by unfold unl at hu; simpa using hu
  exact ((List.mergeSort_perm _ _).nodup_iff).2 (hu'.sublist (List.Sublist.map _ List.filter_sublist))
theorem hasX10_wf {l : List Pt} (hw : wfN l) (b : Bx) : ∀ k ∈ hasX10 l b, (Lit.int .u32 k).wf = true := fun k hk => by
  have h1 : k ∈ ids (l.filter (inB b.1 b.2.1 b.2.2.1 b.2.2.2.1)) := (List.mergeSort_perm _ _).mem_iff.1 hk
  obtain ⟨p, hp, rfl⟩ := List.mem_map.1 h1
  exact hw p (List.mem_filter.1 hp).1
theorem hasX10_lt {l : List Pt} (hu : unl l = true) (b : Bx) {i : Nat} (h : i + 1 < (hasX10 l b).length) : (hasX10 l b)[i]'(Nat.lt_of_succ_lt h) < (hasX10 l b)[i + 1]'h := by
  have h1 : (hasX10 l b)[i]'(Nat.lt_of_succ_lt h) ≤ (hasX10 l b)[i + 1]'h := List.pairwise_iff_getElem.1 (srtI_sorted _) i (i + 1) (Nat.lt_of_succ_lt h) h (by omega)
  have h2 : (hasX10 l b)[i]'(Nat.lt_of_succ_lt h) ≠ (hasX10 l b)[i + 1]'h := List.pairwise_iff_getElem.1 (hasX10_nodup hu b) i (i + 1) (Nat.lt_of_succ_lt h) h (by omega)
  exact Int.lt_iff_le_and_ne.2 ⟨h1, h2⟩
theorem hasX10_len {l : List Pt} (b : Bx) : (hasX10 l b).length = (l.filter (inB b.1 b.2.1 b.2.2.1 b.2.2.2.1)).length := hasB_len ..
theorem split_bad (n : Nat) (wide : Bool) (x x1 x2 y1 y2 : Int) : (decide (80 < (n : Int)) = true) ∨ (decide (80 < (n : Int)) = false ∧ wide = true ∧ decide (x < x1) = true) ∨ (decide (80 < (n : Int)) = false ∧ wide = true ∧ decide (x < x1) = false ∧ decide (x2 ≤ x) = true) ∨ (decide (80 < (n : Int)) = false ∧ wide = false ∧ decide (x < y1) = true) ∨ (decide (80 < (n : Int)) = false ∧ wide = false ∧ decide (x < y1) = false ∧ decide (y2 ≤ x) = true)
    ∨ (decide (80 < (n : Int)) = false ∧ n ≤ 80 ∧ wide = true ∧ decide (x < x1) = false ∧ decide (x2 ≤ x) = false ∧ (if wide then x1 ≤ x ∧ x < x2 else y1 ≤ x ∧ x < y2)) ∨ (decide (80 < (n : Int)) = false ∧ n ≤ 80 ∧ wide = false ∧ decide (x < y1) = false ∧ decide (y2 ≤ x) = false ∧ (if wide then x1 ≤ x ∧ x < x2 else y1 ≤ x ∧ x < y2)) := by
  cases wide <;> simp only [decide_eq_true_eq, decide_eq_false_iff_not, Bool.false_eq_true, if_true, if_false, true_and, false_and, and_false, false_or, or_false, reduceCtorEq] <;> omega

set_option maxRecDepth 100000 in
set_option maxHeartbeats 8000000 in
theorem wBandSplit (a : Option Addr) (l : List Pt) (n c : Nat) (b : Bx) (x : Int) (wide : Bool) (w : World) (hn : l.length = n) (h : RdK ePt 3 w a l) (hf : ∀ p ∈ l, (Lit.int .i64 p.1).wf = true ∧ (Lit.int .i64 p.2.1).wf = true ∧ (Lit.int .u32 p.2.2).wf = true) (hb : b.wf) (hxw : (Lit.int .i64 x).wf = true) :
    Calls Tryz.prog 6 #[.slice a n c, vBx b, .int .i64 x, .bool wide] w fun e w' => e = .returned (.bool true) ∧ Below w.heap.size w w' := by
  subst hn
  have hw : wfN l := fun p hp => (hf p hp).2.2
  have AW := Lib.hid (fun W => awake10 W)
  have hb1 := (wf64v hb.2.1).2
  have hb2 := (wf64v hb.2.2.2.1).2
  have hx1 := wf64v hxw
  obtain ⟨x1, x2, y1, y2, bi⟩ := b
  simp only at hb1 hb2
  have HR := Lib.hid h
  clear hb hxw hf h
  rcases split_bad l.length wide x x1 x2 y1 y2 with d0 | ⟨d0, rfl, d1⟩ | ⟨d0, rfl, d1, d2⟩ | ⟨d0, rfl, d1⟩ | ⟨d0, rfl, d1, d2⟩ | ⟨d0, hlen, ew, d1, d2, hcut⟩ | ⟨d0, hlen, ew, d1, d2, hcut⟩
  iterate 5
    · clear hb1 hb2 hx1
      go_enter Tryz.func6, Tryz.ntmps6
      go_wp2_with (go_at_call 34; refine (AW.out _).mono ?_; rintro e w3 ⟨rfl, hb3⟩)
      go_ret
      exact ⟨rfl, (show Below w.heap.size w _ from (Below.refl _ _).alloc (Nat.le_refl _) _).trans (hb3.mono (by simp))⟩
  all_goals
    have hx2 : -9223372036854775808 ≤ x ∧ x < 9223372036854775807 := by
      cases wide <;> simp only [if_true, if_false, Bool.false_eq_true] at hcut <;> omega
    have CS := Lib.hid (fun W => split10_is wide x1 x2 y1 y2 bi x hx2 W)
    have hperm := cut_two l wide (x1, x2, y1, y2, bi) x hcut
    clear hb1 hb2 hx1 hcut hx2
    generalize hCA : cutA wide (x1, x2, y1, y2, bi) x = CA at *
    generalize hCB : cutB wide (x1, x2, y1, y2, bi) x = CB at *
    clear hCA hCB
    subst ew
    obtain ⟨w1, ew1⟩ : ∃ w1, w1 = w.alloc (.cells #[.int .i64 x1, .int .i64 x2, .int .i64 y1, .int .i64 y2, .int .u32 bi] 51) := ⟨_, rfl⟩
    have hb1 : Below w.heap.size w w1 := by rw [ew1]; exact (Below.refl _ _).alloc (Nat.le_refl _) _
    have X1 : w1.heap[w.heap.size]? = some (objBx (x1, x2, y1, y2, bi)) := by rw [ew1]; exact lit0 _ _
    have EX := ew1.symm
    have HB1 := Lib.hid hb1
    have HX1 := Lib.hid X1
    obtain ⟨y0, y1', y2', y3, y4⟩ := objBx_cells X1
    simp only at y0 y1' y2' y3 y4
    clear ew1 hb1 X1
    rcases Bool.eq_false_or_eq_true (unl l) with hu | hu
    · have HP := Lib.hid hperm
      have HN := Lib.hid (hasX10_nodup hu (x1, x2, y1, y2, bi))
      have HWF := Lib.hid (hasX10_wf hw (x1, x2, y1, y2, bi))
      have HLT := Lib.hid (fun i h => hasX10_lt hu (x1, x2, y1, y2, bi) (i := i) h)
      have cb1 := Lib.hid (bBuild a c l w1 (HR.out.below HB1.out) (by omega) hw hu)
      clear hperm hu hw
      go_enter Tryz.func6, Tryz.ntmps6
      go_wp2_with fail
      (try rw [EX])
      refine cb1.out.mono ?_
      rintro e w2 ⟨tb, rfl, T2, hb2⟩
      have HT2 := Lib.hid T2
      have X2 := (hb2.block _ (Array.getElem?_eq_some_iff.1 HX1.out).1).trans HX1.out
      have HX2 := Lib.hid X2
      have HB2 := Lib.hid (HB1.out.trans (hb2.mono HB1.out.size))
      clear y0 y1' y2' y3 y4 T2 hb2 cb1 HX1 EX
      obtain ⟨y0, y1', y2', y3, y4⟩ := objBx_cells X2
      simp only at y0 y1' y2' y3 y4
      clear X2
      go_wp2_with fail
      refine (CS.out _).mono ?_
      rintro e w3 ⟨rfl, hb3⟩
      have X3 := (hb3.block _ (Array.getElem?_eq_some_iff.1 HX2.out).1).trans HX2.out
      have HX3 := Lib.hid X3
      have HB3 := Lib.hid hb3
      clear y0 y1' y2' y3 y4 hb3 X3
      obtain ⟨ca, cb, cc, cd, ce⟩ := CA
      obtain ⟨da, db, dc, dd, de⟩ := CB
      go_upto_region 7 with fail
      obtain ⟨w4, ew4⟩ : ∃ w4, w4 = (w3.alloc (.cells #[.int .i64 ca, .int .i64 cb, .int .i64 cc, .int .i64 cd, .int .u32 ce] 51)).alloc (.cells #[.int .i64 da, .int .i64 db, .int .i64 dc, .int .i64 dd, .int .u32 de] 51) := ⟨_, rfl⟩
      have b4 : Below w3.heap.size w3 w4 := by rw [ew4]; exact ((Below.refl _ _).alloc (Nat.le_refl _) _).alloc (by simp) _
      have XA4 : w4.heap[w3.heap.size]? = some (objBx (ca, cb, cc, cd, ce)) := by rw [ew4]; exact lit1 _ _ _
      have XB4 : w4.heap[w3.heap.size + 1]? = some (objBx (da, db, dc, dd, de)) := by rw [ew4]; exact lit2 _ _ _
      have X4 := (b4.block _ (Array.getElem?_eq_some_iff.1 HX3.out).1).trans HX3.out
      rw [← ew4]
      clear ew4
      have B24 := HB3.out.trans (b4.mono HB3.out.size)
      have HT4 := Lib.hid (HT2.out.below B24 HT2.out.hi_le)
      have HB4 := Lib.hid (HB2.out.trans (B24.mono HB2.out.size))
      generalize w3.heap.size = ga at *
      have HXA4 := Lib.hid XA4
      have HXB4 := Lib.hid XB4
      have HP1 : Hid ((hasB l ca cb cc cd ++ hasB l da db dc dd).Perm (hasB l x1 x2 y1 y2)) := Lib.hid HP.out
      have HN1 : Hid ((hasB l x1 x2 y1 y2).Nodup) := Lib.hid HN.out
      have HWF1 : Hid (∀ k ∈ hasB l x1 x2 y1 y2, (Lit.int .u32 k).wf = true) := Lib.hid HWF.out
      have HLT1 : Hid (∀ i, ∀ h : i + 1 < (hasB l x1 x2 y1 y2).length, (hasB l x1 x2 y1 y2)[i]'(Nat.lt_of_succ_lt h) < (hasB l x1 x2 y1 y2)[i + 1]'h) := Lib.hid HLT.out
      have CR := Lib.hid (fun W (hb : Below w4.heap.size w4 W) x1 x2 y1 y2 bi => (bReport (HT4.out.below hb HT4.out.hi_le) x1 x2 y1 y2 bi).mono fun e w' ⟨v, c, he, _, hr, hb⟩ => show ∃ v, ∃ c : Nat, e = Ending.returned (.tuple #[v, .int .i64 (c : Nat)]) ∧ w'.ownsRow W.heap.size 32 1 v (hasB l x1 x2 y1 y2).length ((hasB l x1 x2 y1 y2).map (Value.int .u32)) ∧ Below W.heap.size W w' from ⟨v, c, he, hr, hb⟩)
      have CC := Lib.hid (fun W (hb : Below w4.heap.size w4 W) x1 x2 y1 y2 bi => (bCount (HT4.out.below hb HT4.out.hi_le) x1 x2 y1 y2 bi).mono fun e w' ⟨⟨c, he, _⟩, hb⟩ => show (∃ c : Nat, e = Ending.returned (.tuple #[.int .i64 ((hasB l x1 x2 y1 y2).length : Nat), .int .i64 c])) ∧ Below W.heap.size W w' from ⟨⟨c, by rw [hasB_len]; exact he⟩, hb⟩)
      clear HP HN HWF HLT HT2 HT4 HB2 HB3 HX2 HX3 B24 b4 XA4 XB4
      have hlM : (hasB l x1 x2 y1 y2).length ≤ 80 := by rw [hasB_len]; exact Nat.le_trans (List.length_filter_le _ _) hlen
      obtain ⟨y0, y1', y2', y3, y4⟩ := objBx_cells X4
      simp only at y0 y1' y2' y3 y4
      clear X4
      go_wp2_with fail
      refine (CR.out _ (Below.refl _ _) x1 x2 y1 y2 bi).mono ?_
      rintro e w5 ⟨v5, c5, rfl, hown5, hb5⟩
      obtain ⟨a5, k5, rfl, -, -, hr5⟩ := Rd.of_owns hown5
      have R5_5 := Lib.hid hr5
      have XA5 := (hb5.block _ (Array.getElem?_eq_some_iff.1 HXA4.out).1).trans HXA4.out
      have XB5 := (hb5.block _ (Array.getElem?_eq_some_iff.1 HXB4.out).1).trans HXB4.out
      have HXA5 := Lib.hid XA5
      have HXB5 := Lib.hid XB5
      have HB5 := Lib.hid hb5
      clear y0 y1' y2' y3 y4 hown5 hr5 hb5 XB5 HXA4 HXB4
      generalize hasB l x1 x2 y1 y2 = M at *
      obtain ⟨y0, y1', y2', y3, y4⟩ := objBx_cells XA5
      simp only at y0 y1' y2' y3 y4
      clear XA5
      go_wp2_with fail
      refine (CR.out _ HB5.out ca cb cc cd ce).mono ?_
      rintro e w6 ⟨v6, c6, rfl, hown6, hb6⟩
      obtain ⟨a6, k6, rfl, -, -, hr6⟩ := Rd.of_owns hown6
      have R6_6 := Lib.hid hr6
      have R5_6 := Lib.hid (R5_5.out.below hb6)
      have XB6 := (hb6.block _ (Array.getElem?_eq_some_iff.1 HXB5.out).1).trans HXB5.out
      have HXA6 := Lib.hid ((hb6.block _ (Array.getElem?_eq_some_iff.1 HXA5.out).1).trans HXA5.out)
      have HXB6 := Lib.hid XB6
      have HB6 := Lib.hid (HB5.out.trans (hb6.mono HB5.out.size))
      clear y0 y1' y2' y3 y4 hown6 hr6 hb6 HXA5 HXB5 HB5 R5_5
      obtain ⟨y0, y1', y2', y3, y4⟩ := objBx_cells XB6
      simp only at y0 y1' y2' y3 y4
      clear XB6
      go_wp2_with fail
      refine (CR.out _ HB6.out da db dc dd de).mono ?_
      rintro e w7 ⟨v7, c7, rfl, hown7, hb7⟩
      obtain ⟨a7, k7, rfl, -, -, hr7⟩ := Rd.of_owns hown7
      have R7_7 := Lib.hid hr7
      have R6_7 := Lib.hid (R6_6.out.below hb7)
      have R5_7 := Lib.hid (R5_6.out.below hb7)
      have XA7 := (hb7.block _ (Array.getElem?_eq_some_iff.1 HXA6.out).1).trans HXA6.out
      have HXB7 := Lib.hid ((hb7.block _ (Array.getElem?_eq_some_iff.1 HXB6.out).1).trans HXB6.out)
      have HB7 := Lib.hid (HB6.out.trans (hb7.mono HB6.out.size))
      clear y0 y1' y2' y3 y4 hown7 hr7 hb7 HXA6 HXB6 HB6 R5_6 R6_6
      obtain ⟨y0, y1', y2', y3, y4⟩ := objBx_cells XA7
      simp only at y0 y1' y2' y3 y4
      clear XA7
      go_wp2_with fail
      refine (CC.out _ HB7.out ca cb cc cd ce).mono ?_
      rintro e w8 ⟨⟨c8, rfl⟩, hb8⟩
      have R7_8 := Lib.hid (R7_7.out.below hb8)
      have R6_8 := Lib.hid (R6_7.out.below hb8)
      have R5_8 := Lib.hid (R5_7.out.below hb8)
      have XB8 := (hb8.block _ (Array.getElem?_eq_some_iff.1 HXB7.out).1).trans HXB7.out
      have HB8 := Lib.hid (HB7.out.trans (hb8.mono HB7.out.size))
      clear y0 y1' y2' y3 y4 hb8 HXB7 HB7 R5_7 R6_7 R7_7
      obtain ⟨y0, y1', y2', y3, y4⟩ := objBx_cells XB8
      simp only at y0 y1' y2' y3 y4
      clear XB8
      go_wp2_with fail
      refine (CC.out _ HB8.out da db dc dd de).mono ?_
      rintro e w9 ⟨⟨c9, rfl⟩, hb9⟩
      have R7_9 := Lib.hid (R7_8.out.below hb9)
      have R6_9 := Lib.hid (R6_8.out.below hb9)
      have R5_9 := Lib.hid (R5_8.out.below hb9)
      have HB9 := Lib.hid (HB4.out.trans ((HB8.out.trans (hb9.mono HB8.out.size)).mono HB4.out.size))
      clear y0 y1' y2' y3 y4 hb9 HB8 R5_8 R6_8 R7_8 CR CC CS HB4
      generalize hasB l ca cb cc cd = N1 at *
      generalize hasB l da db dc dd = N2 at *
      have hl12 : N1.length + N2.length = M.length := by rw [← List.length_append]; exact HP1.out.length_eq
      have hmm := @run_makeMap Tryz.prog
      go_upto_region 13 with fail
      clear hmm
      obtain ⟨w10, ew10⟩ : ∃ w10, w10 = w9.alloc (Obj.map #[] 0) := ⟨_, rfl⟩
      have b10 : Below w9.heap.size w9 w10 := by rw [ew10]; exact (Below.refl _ _).alloc (Nat.le_refl _) _
      have hm10 : w10.ownsMap Tryz.prog 32 (plainElem Tryz.prog 3) w9.heap.size 0 (.map [] : DataW Unit) := by rw [ew10]; exact World.ownsMap_made _ _ _ _
      have hs10 : w10.heap.size = w9.heap.size + 1 := by rw [ew10]; simp
      rw [← ew10]
      have HM10 := Lib.hid hm10
      have HB10 := Lib.hid b10
      have hown := World.ownsRow_made (base := w10.heap.size) (e := 32) (size := 1) w10 #[] 0 (Nat.le_refl _) (Nat.zero_le _) rfl
      have HHO := Lib.hid hown
      have HR6 := Lib.hid ((R6_9.out.below b10).below ((Below.refl _ w10).alloc (Nat.le_refl _) (.cells #[] 32)))
      have R7_10 := Lib.hid (R7_9.out.below b10)
      have hs9 : w9.heap.size < w10.heap.size := by omega
      clear ew10 b10 hm10 hown hs10 R6_9 R7_9
      obtain ⟨S, hS⟩ : ∃ S, S = N1 ++ N2 := ⟨_, rfl⟩
      have HS := Lib.hid hS
      have hS80 : S.length ≤ 80 := by rw [hS, List.length_append]; omega
      clear hS
      go_wp2_with (first
        | (at_builtin; refine wp_appendL elU32s (fun _ => rfl) w10.heap.size HHO.out HR6.out rfl _ _ rfl rfl k6 rfl (by unfold maxLen; omega) (by omega) (by simp) ?_; intro v11 w11 hown11 hg11; have b11 : Below w10.heap.size w10 w11 := below_grown ((Below.refl _ _).alloc (Nat.le_refl _) _) HHO.out hg11 (by simp) (Nat.le_refl _); have HO11 := Lib.hid hown11; have HR7 := Lib.hid (R7_10.out.below b11); have HB11 := Lib.hid b11; have hs11 := b11.size; clear hg11 b11 hown11)
        | (at_builtin; refine wp_appendL elU32s (fun _ => rfl) w10.heap.size HO11.out HR7.out rfl _ _ rfl rfl k7 rfl (by unfold maxLen; omega) (by omega) hs11 ?_; intro v12 w12 hown12 hg12; have b12 : Below w10.heap.size w10 w12 := below_grown HB11.out HO11.out hg12 hs11 (Nat.le_refl _); have HO12 := Lib.hid (show w12.ownsRow w10.heap.size 32 1 v12 S.length (S.map (Value.int .u32)) from by rw [HS.out]; simpa [List.length_append, List.map_append] using hown12); clear hown12 hg12; obtain ⟨a12, k12, rfl, -, -, -⟩ := Rd.of_owns HO12.out))
      have HB12 := Lib.hid b12
      have HM12 : Hid (∃ (D : DataW Unit) (ks : List Int), w12.ownsMap Tryz.prog 32 (plainElem Tryz.prog 3) w9.heap.size 0 D ∧ IsM .u32 .i64 D (cntF []) ks) := ⟨_, _, HM10.out.kept (grown_of10 b12) (by simp), by rw [cntF_nil]; exact IsM.empty _ _⟩
      rw [← HS.out] at HP1
      have HSW : Hid (∀ k ∈ S, (Lit.int .u32 k).wf = true) := Lib.hid (fun k hk => HWF1.out k (HP1.out.mem_iff.1 hk))
      have hs12 := b12.size
      clear b12 HM10 HHO HR6 R7_10
      go_loopw [115] (fun jv wr => ∃ j : Nat, jv = .int .i64 j ∧ j ≤ S.length ∧ Hid (KpS (fun k => k = w9.heap.size) w12 wr) ∧ Hid (∃ (D : DataW Unit) (ks : List Int), wr.ownsMap Tryz.prog 32 (plainElem Tryz.prog 3) w9.heap.size j D ∧ IsM .u32 .i64 D (cntF (S.take j)) ks)) (fun jv _ => S.length - (intOf jv).toNat)
      case atStart => exact ⟨0, rfl, Nat.zero_le _, Lib.hid (KpS.refl _ _), by rw [List.take_zero]; exact HM12⟩
      case round =>
        obtain ⟨j, rfl, hj, HK, HM⟩ := hrel
        by_cases hjl : j < S.length
        · have RR := rowK HO12.out HK.out (fun gb e h => by have := (HO12.out.lt gb e).1; omega)
          obtain ⟨a9, k9, e9, -, -, hr9⟩ := Rd.of_owns RR
          injection e9 with e9 _ _
          obtain ⟨b, off, ea, hbl, hcs⟩ := hr9.get (by omega)
          have x0 := hcs j hjl
          have et : S.take (j + 1) = S.take j ++ [S[j]] := List.take_succ_eq_append_getElem hjl
          have hkey : Hid (keyOf Tryz.prog 32 (.int .u32 S[j]) = some (.int .u32 S[j])) := Lib.hid (keyOf_int_mk Tryz.underlying32 (HSW.out _ (List.getElem_mem _)))
          obtain ⟨D, ks, hown0, hD⟩ := HM.out
          have hcnt : List.count S[j] (S.take j) ≤ 600 := Nat.le_trans List.count_le_length (by rw [List.length_take]; omega)
          have hat0 : ∀ cc : Int, D.atKey (.int .u32 S[j]) (.lit (.int .i64 0)) = .lit (.int .i64 cc) → cc = (List.count S[j] (S.take j) : Nat) := fun cc hcc => (cnt_at10 hD _ cc hcc).symm
          have HD2 := hD.put S[j] ((List.count S[j] (S.take j) : Nat) + 1)
          rw [← cntF_snoc, ← et] at HD2
          have HD := Lib.hid HD2
          have HA0 := Lib.hid hat0
          have EA := Lib.hid (e9.trans ea)
          have hkl2 : (j : Int) < (S.length : Int) := by omega
          clear HM et hcs HD2 hD hat0 ea RR hr9 e9
          generalize List.count S[j] (S.take j) = cn at *
          generalize S[j] = m at *
          obtain rfl := EA.out
          clear EA
          have hTj : j < maxLen := by unfold maxLen; omega
          go_wp2_with (first | (at_lookup; refine wpList_lookup_own_int _ rfl _ _ 40 rfl 32 3 .i64 (int_keyed Tryz.underlying32) Tryz.underlying40 Tryz.underlying3 (Tryz.zeroValue3 _) w9.heap.size j _ rfl hown0 _ _ rfl hkey.out ?_; intro cc hat _; obtain rfl := HA0.out cc hat; clear hat) | (at_mapUpdate; refine wpList_mapUpdate_own _ rfl _ _ _ 40 rfl 32 3 (int_keyed Tryz.underlying32) Tryz.underlying40 _ w9.heap.size j _ rfl hown0 hTj _ _ _ rfl rfl hkey.out _ [] (plainElem_int Tryz.underlying3 (by simp [Lit.wf, IntKind.min, IntKind.max, IntKind.bits, IntKind.signed]; omega)) ?_; intro w33 hown3 hgrow3))
          have HM6 : Hid (∃ (D : DataW Unit) (ks : List Int), w33.ownsMap Tryz.prog 32 (plainElem Tryz.prog 3) w9.heap.size (j + 1) D ∧ IsM .u32 .i64 D (cntF (S.take (j + 1))) ks) := ⟨_, _, hown3, HD.out⟩
          have HM7 : Hid (∃ (D : DataW Unit), w33.ownsMap Tryz.prog 32 (plainElem Tryz.prog 3) w9.heap.size (j + 1) D ∧ ∃ ks, IsM .u32 .i64 D (cntF (S.take (j + 1))) ks) := ⟨_, hown3, _, HD.out⟩
          go_roundw
          case rel => exact ⟨j + 1, by go_num, by omega, Lib.hid (HK.out.grown hgrow3 (fun k hk => .inl (by injection hk with hk; exact hk.symm))), by first | exact HM6 | exact HM7⟩
          case measure => simp [intOf]; omega
        · obtain rfl : j = S.length := by omega
          rw [List.take_length] at HM
          obtain ⟨D, ks, hown0, hD⟩ := HM.out
          have hcnt1 : Hid (∀ i (hi : i < M.length), ∀ cc : Int, D.atKey (.int .u32 M[i]) (.lit (.int .i64 0)) = .lit (.int .i64 cc) → cc = 1) := Lib.hid (fun i hi cc hcc => by
            have h1 := cnt_at10 hD _ cc hcc
            rw [HP1.out.count_eq] at h1
            have h2 := List.one_le_count_iff.2 (List.getElem_mem hi)
            have h3 := List.nodup_iff_count.1 HN1.out M[i]
            omega)
          have hks : Maps.size D = M.length := by
            rw [hD.2.1]
            refine nodup_same_len hD.2.2.1 HN1.out (fun z => ?_)
            rw [hD.2.2.2.1 z]
            unfold cntF
            by_cases hz : z ∈ S
            · simp [hz, HP1.out.mem_iff.1 hz]
            · simp only [hz, if_false, Option.isSome_none, Bool.false_eq_true, false_iff]
              exact fun h => hz (HP1.out.mem_iff.2 h)
          have hBW : Below w9.heap.size w9 wr := (HB10.out.trans (HB12.out.mono (by omega))).trans (HK.out.toBelow (by omega) (fun k h => Nat.le_of_eq h.symm))
          have HKS := Lib.hid hks
          have HOM := Lib.hid hown0
          have R5w := Lib.hid (R5_9.out.below hBW)
          have HBW := Lib.hid (HB9.out.trans (hBW.mono HB9.out.size))
          obtain ⟨wq, ewq⟩ : ∃ wq : World, wq = wr := ⟨_, rfl⟩
          subst ewq
          clear HM hD hown0 hks hBW HK HM12 HSW HO12 R5_9 HB12 HB10
          go_wp2
          go_loopw [126] (fun jv wr => ∃ j : Nat, jv = .int .i64 j ∧ j ≤ M.length ∧ wr = wq) (fun jv _ => M.length - (intOf jv).toNat)
          case atStart => exact ⟨0, rfl, Nat.zero_le _, rfl⟩
          case round =>
            obtain ⟨j, rfl, hj, rfl⟩ := hrel
            by_cases hjl : j < M.length
            · obtain ⟨b, off, ea, hbl, hcs⟩ := R5w.out.get (by omega)
              have x0 := hcs j hjl
              have hkey : Hid (keyOf Tryz.prog 32 (.int .u32 M[j]) = some (.int .u32 M[j])) := Lib.hid (keyOf_int_mk Tryz.underlying32 (HWF1.out _ (List.getElem_mem hjl)))
              have HC1 := Lib.hid (hcnt1.out j hjl)
              have EA := Lib.hid ea
              have hkl2 : (j : Int) < (M.length : Int) := by omega
              have hown1 := HOM.out
              rcases Nat.eq_zero_or_pos j with rfl | hj0
              · clear hcs ea hkl2
                have hkl2 : (0 : Int) < (M.length : Int) := by omega
                simp only [Nat.add_zero] at x0
                generalize M[0] = m at *
                obtain rfl := EA.out
                clear EA
                go_wp2_with (at_lookup; refine wpList_lookup_own_int _ rfl _ _ 40 rfl 32 3 .i64 (int_keyed Tryz.underlying32) Tryz.underlying40 Tryz.underlying3 (Tryz.zeroValue3 _) w9.heap.size _ _ rfl hown1 _ _ rfl hkey.out ?_; intro cc hat _; obtain rfl := HC1.out cc hat; clear hat)
                go_roundw
                case rel => first | exact ⟨1, by go_num, by omega, by first | trivial | rfl⟩ | ((repeat apply Exists.intro); exact ⟨⟨1, by go_num, by omega, by first | trivial | rfl⟩, rfl⟩)
                case measure => simp [intOf]; omega
              · obtain ⟨i, rfl⟩ : ∃ i, j = i + 1 := ⟨j - 1, by omega⟩
                have z0 := hcs i (by omega)
                have hlt := HLT1.out i hjl
                clear hcs ea
                have EM : Hid (∃ p, p = M[i]'(Nat.lt_of_succ_lt hjl)) := ⟨_, rfl⟩
                obtain ⟨p, hp⟩ := EM.out
                rw [← hp] at z0 hlt
                clear hp EM
                generalize M[i + 1] = m at *
                obtain rfl := EA.out
                clear EA
                have d5 : decide (m ≤ p) = false := by simp; omega
                have e5 : ((i + 1 : Nat) : Int) - 1 = (i : Int) := by omega
                have i5 : (0 : Int) < ((i + 1 : Nat) : Int) := by omega
                go_wp2_with (at_lookup; refine wpList_lookup_own_int _ rfl _ _ 40 rfl 32 3 .i64 (int_keyed Tryz.underlying32) Tryz.underlying40 Tryz.underlying3 (Tryz.zeroValue3 _) w9.heap.size _ _ rfl hown1 _ _ rfl hkey.out ?_; intro cc hat _; obtain rfl := HC1.out cc hat; clear hat)
                go_roundw
                case rel => first | exact ⟨i + 2, by go_num, by omega, by first | trivial | rfl⟩ | ((repeat apply Exists.intro); exact ⟨⟨i + 2, by go_num, by omega, by first | trivial | rfl⟩, rfl⟩)
                case measure => simp [intOf]; omega
            · obtain rfl : j = M.length := by omega
              have hlen9 : (Builtin.len_ #[40] 3 #[.map (some w9.heap.size)]).run Tryz.prog wr = .ok (.int .i64 (M.length : Nat)) wr := by rw [HOM.out.len Tryz.underlying40 3, HKS.out]
              have e1 : (N1.length : Int) + (N2.length : Int) = (M.length : Int) := by omega
              go_wp2_with (go_at_call 34; refine (AW.out _).mono ?_; rintro e w9 ⟨rfl, hb9⟩)
              go_ret
              exact ⟨rfl, HBW.out.trans (hb9.mono HBW.out.size)⟩
    · have cb1 := Lib.hid (band_build_bad a c l w1 (HR.out.below HB1.out) (by omega) hw hu)
      clear hperm
      go_enter Tryz.func6, Tryz.ntmps6
      go_wp2_with fail
      (try rw [EX])
      refine cb1.out.mono ?_
      rintro e w2 ⟨rfl, hb2⟩
      have B2 := HB1.out.trans (hb2.mono HB1.out.size)
      clear y0 y1' y2' y3 y4 EX
      go_wp2_with (go_at_call 34; refine (AW.out _).mono ?_; rintro e w3 ⟨rfl, hb3⟩)
      go_ret
      exact ⟨rfl, B2.trans (hb3.mono B2.size)⟩
end Go.Proofs.YthpgkldpbbajfaaGreat
