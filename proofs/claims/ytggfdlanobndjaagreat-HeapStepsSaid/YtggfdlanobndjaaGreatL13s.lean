/- gridironref13.Three; gridironlaw13: sameIDs, three. -/
import Derived.Test.YtggfdlanobndjaaGreatQ3
import Derived.Test.YtggfdlanobndjaaGreatQ7
import Derived.Test.YtggfdlanobndjaaGreatQ5
import Derived.Test.YtggfdlanobndjaaGreatHep
import Derived.Deep.CutRange
import Derived.Deep.RegionWith
namespace Go.Proofs.YtggfdlanobndjaaGreat
open Go.RowKit Go.Maps
attribute [local irreducible] wpQuiet
set_option linter.unusedSimpArgs false
set_option linter.unusedVariables false

theorem in3_cases (x1 x2 y : Int) (px py pi : Int) :
    (in3 x1 x2 y (px, py, pi) = true ∧ decide (x1 ≤ px) = true ∧ decide (px ≤ x2) = true ∧ decide (py ≤ y) = true) ∨
    (in3 x1 x2 y (px, py, pi) = false ∧ decide (x1 ≤ px) = false) ∨ (in3 x1 x2 y (px, py, pi) = false ∧ decide (x1 ≤ px) = true ∧ decide (px ≤ x2) = false) ∨
    (in3 x1 x2 y (px, py, pi) = false ∧ decide (x1 ≤ px) = true ∧ decide (px ≤ x2) = true ∧ decide (py ≤ y) = false) := by
  unfold in3
  simp only [decide_eq_true_eq, decide_eq_false_iff_not]
  omega

set_option maxRecDepth 100000 in
set_option maxHeartbeats 4000000 in
theorem ref13_three (a : Option Addr) (l : List Pt) (n c : Nat) (w : World) (hn : l.length = n) (h : RdK ePt 3 w a l) (hl : n ≤ 1000000) (x1 x2 y : Int) :
    Calls Tryz.prog 52 #[.slice a n c, .int .i64 x1, .int .i64 x2, .int .i64 y] w fun e w' => ∃ v, e = .returned v ∧ w'.ownsRow w.heap.size 32 1 v (has3 l x1 x2 y).length ((has3 l x1 x2 y).map (.int .u32)) ∧ Below w.heap.size w w' := by
  subst hn
  have H := Lib.hid h
  clear h
  have SRT := Lib.hid (fun a l n c w => ref8_sorted a l n c w)
  have e1 : has3 l x1 x2 y = srtI (ids (l.filter (in3 x1 x2 y))) := rfl
  rw [e1, srtI_len]
  clear e1
  go_enter Tryz.func52, Tryz.ntmps52
  go_wp2
  go_loopw [9, 10] (fun v iv wr => ∃ (i : Nat), iv = .int .i64 i ∧ i ≤ l.length ∧ Hid (wr.ownsRow w.heap.size 32 1 v (ids ((l.take i).filter (in3 x1 x2 y))).length ((ids ((l.take i).filter (in3 x1 x2 y))).map (.int .u32))) ∧ Below w.heap.size w wr) (fun _ iv _ => l.length - (intOf iv).toNat)
  case atStart => exact ⟨0, rfl, Nat.zero_le _, by simp [ids]; exact World.ownsRow_nil _ _ _ _, Below.refl _ _⟩
  case round =>
    obtain ⟨i, rfl, hi, HO, hb⟩ := hrel
    by_cases hlt : i < l.length
    · obtain ⟨b, off, ea, hbl, hcs⟩ := (H.out.below hb).get (by omega)
      have x0 := hcs i hlt 0 (by omega)
      have x1' := hcs i hlt 1 (by omega)
      have x2' := hcs i hlt 2 (by omega)
      simp only [ePt, List.getElem?_cons_zero, List.getElem?_cons_succ, Nat.add_zero] at x0 x1' x2'
      have hlk : (ids ((l.take i).filter (in3 x1 x2 y))).length ≤ 1000000 := by
        unfold ids
        rw [List.length_map]
        exact Nat.le_trans (List.length_filter_le _ _) (by rw [List.length_take]; omega)
      have HY : Hid _ := (ids_take_in hlt (in3 x1 x2 y)).1
      have HX : Hid _ := (ids_take_in hlt (in3 x1 x2 y)).2
      have EA := Lib.hid ea
      clear hcs ea
      generalize l[i] = p at *
      obtain ⟨px, py, pi⟩ := p
      simp only at x0 x1' x2'
      obtain rfl := EA.out
      clear EA
      generalize ids ((l.take i).filter (in3 x1 x2 y)) = L at *
      have hss := hb.size
      have hkl : (i : Int) < (l.length : Int) := by omega
      have HOA := Lib.hid HO.out
      rcases in3_cases x1 x2 y px py pi with ⟨hf, d1, d2, d3⟩ | ⟨hf, d1⟩ | ⟨hf, d1, d2⟩ | ⟨hf, d1, d2, d3⟩
      · have HF := Lib.hid (HY.out hf)
        clear hf HY HX
        go_wp2_with (at_builtin; refine wp_append1 elU32s w.heap.size HOA.out [.int .u32 pi] rfl (by simp [Value.oneCell']) rfl _ _ rfl rfl _ rfl (by unfold maxLen; omega) (by omega) hss ?_; intro v' w6 hown' hg; have b6 := below_grown hb HOA.out hg hss (Nat.le_refl _))
        go_roundw
        case rel =>
          refine ⟨i + 1, by go_num, by omega, ?_, b6⟩
          show World.ownsRow _ _ _ _ _ _ _
          rw [HF.out, List.map_append, List.length_append]
          exact hown'
        case measure => simp [intOf]; omega
      all_goals
        have HF := Lib.hid (HX.out hf)
        clear hf HY HX
        go_wp2
        go_roundw
        case rel =>
          refine ⟨i + 1, by go_num, by omega, ?_, hb⟩
          show World.ownsRow _ _ _ _ _ _ _
          rw [HF.out]
          exact HOA.out
        case measure => simp [intOf]; omega
    · obtain rfl : i = l.length := by omega
      have HO2 := HO.out
      rw [List.take_length] at HO2
      have e3 : (ids (l.filter (in3 x1 x2 y))).length ≤ 1000000 := by
        unfold ids
        rw [List.length_map]
        exact Nat.le_trans (List.length_filter_le _ _) (by omega)
      obtain ⟨av, cv, rfl, -, -, hr⟩ := Rd.of_owns HO2
      have hc := SRT.out av _ _ cv wr rfl hr e3
      go_wp2_with (go_at_call 87; refine hc.mono ?_; rintro e w9 ⟨v9, rfl, hown9, hb9⟩)
      go_ret
      refine ⟨v9, rfl, ?_, hb.trans (hb9.mono hb.size)⟩
      exact ⟨hown9.1, by
        rcases hown9.2 with h | ⟨g, cap, cur, e, hg, hrest⟩
        · exact .inl h
        · exact .inr ⟨g, cap, cur, e, Nat.le_trans hb.size hg, hrest⟩⟩

attribute [local go_sem] Oper.still1
set_option maxRecDepth 100000 in
set_option maxHeartbeats 4000000 in
theorem same13 (a a' : Option Addr) (l l' : List Int) (n n' c c' : Nat) (w : World) (hn : l.length = n) (hn' : l'.length = n') (h : Rd (.int .u32) w a l) (h' : Rd (.int .u32) w a' l') (hl : n ≤ 1000000) (hl' : n' ≤ 1000000) :
    Calls Tryz.prog 25 #[.slice a n c, .slice a' n' c'] w fun e w' => e = .returned (.bool (decide (l = l'))) ∧ Below w.heap.size w w' := by
  subst hn hn'
  have HR := Lib.hid h
  have HR' := Lib.hid h'
  clear h h'
  generalize hr : decide (l = l') = r
  have HRR := Lib.hid hr
  clear hr
  by_cases hln : l.length = l'.length
  · have dl : ((l.length : Int) != (l'.length : Int)) = false := by simp [hln]
    have HLN := Lib.hid hln
    clear hln
    go_enter Tryz.func25, Tryz.ntmps25
    go_wp2
    go_loopw [13] (fun iv wr => ∃ k : Nat, iv = .int .i64 k ∧ k ≤ l.length ∧ Below w.heap.size w wr ∧ Hid (l.take k = l'.take k)) (fun iv _ => l.length - (intOf iv).toNat)
    case atStart => exact ⟨0, rfl, Nat.zero_le _, Below.refl _ _, rfl⟩
    case round =>
      obtain ⟨k, rfl, hk, hb, INV⟩ := hrel
      by_cases hlt : k < l.length
      · have hlt' : k < l'.length := by have := HLN.out; omega
        obtain ⟨b, off, ea, hbl, hcs⟩ := (HR.out.below hb).get (by omega)
        obtain ⟨b', off', ea', hbl', hcs'⟩ := (HR'.out.below hb).get (by omega)
        have x0 := hcs k hlt
        have y0 := hcs' k hlt'
        have hkl : (k : Int) < (l.length : Int) := by omega
        have hkl' : (k : Int) < (l'.length : Int) := by omega
        have HNE : l[k] ≠ l'[k] → r = false := fun hne => by
          rw [← HRR.out]
          simp only [decide_eq_false_iff_not]
          intro e
          subst e
          exact hne rfl
        have HYE : l[k] = l'[k] → Hid (l.take (k + 1) = l'.take (k + 1)) := fun he => takeI_more l l' k INV.out hlt hlt' he
        have EA := Lib.hid ea
        have EA' := Lib.hid ea'
        clear hcs hcs' ea ea'
        generalize l[k] = px at *
        generalize l'[k] = qx at *
        obtain rfl := EA.out
        obtain rfl := EA'.out
        clear EA EA'
        by_cases h0 : px = qx
        · have d0 : (px != qx) = false := by simp [h0]
          have I2 := HYE h0
          clear h0 HNE HYE INV
          go_wp2
          go_region
          all_goals
            go_wp2
            go_roundw
            case rel => exact ⟨k + 1, by go_num, by omega, hb.drew, I2⟩
            case measure => simp [intOf]; omega
        · have d0 : (px != qx) = true := by simp [h0]
          have hr := HNE h0
          subst hr
          clear h0 HNE HYE HRR INV
          go_wp2
          go_region
          all_goals
            go_wp2
            go_ret
            exact ⟨rfl, hb.drew⟩
      · obtain rfl : k = l.length := by omega
        have e1 : r = true := by
          rw [← HRR.out, decide_eq_true_eq]
          have := INV.out
          rw [List.take_length, HLN.out, List.take_length] at this
          exact this
        subst e1
        clear INV HRR
        go_wp2
        go_ret
        exact ⟨rfl, hb⟩
  · have dl : ((l.length : Int) != (l'.length : Int)) = true := by simp; omega
    have e1 : r = false := by
      rw [← HRR.out, decide_eq_false_iff_not]
      rintro rfl
      exact hln rfl
    subst e1
    clear HRR hln
    go_enter Tryz.func25, Tryz.ntmps25
    go_wp2
    go_ret
    exact ⟨rfl, Below.refl _ _⟩

/-- three: does a tree tell just these of three sides? -/
def hasQ3 (l : List Pt) (x1 x2 y : Int) (l' : List Int) : Bool := decide (has3 l x1 x2 y = l')
set_option maxRecDepth 100000 in
set_option maxHeartbeats 1000000 in
theorem three13 {w : World} {lo hi tb n0 : Nat} {l : List Pt} (hT : HepAt w lo hi tb n0 l) (x1 x2 y : Int) (a' : Option Addr) (l' : List Int) (n' c' : Nat) (hn' : l'.length = n') (h' : Rd (.int .u32) w a' l') (hl' : n' ≤ 1000000) :
    Calls Tryz.prog 39 #[.pointer (some ⟨tb, 0, none⟩), .int .i64 x1, .int .i64 x2, .int .i64 y, .slice a' n' c'] w fun e w' => e = .returned (.bool (hasQ3 l x1 x2 y l')) ∧ Below w.heap.size w w' := by
  have few := hT.few2
  have hgl : (has3 l x1 x2 y).length ≤ 20000 := by rw [has3_len]; exact Nat.le_trans (List.length_filter_le _ _) (by omega)
  have HLF : Hid ((has3 l x1 x2 y).length = (l.filter (in3 x1 x2 y)).length) := has3_len ..
  have HT := Lib.hid hT
  have H' := Lib.hid h'
  have HN' := Lib.hid hn'
  clear hT h' hn'
  go_enter Tryz.func39, Tryz.ntmps39
  go_wp2_with fail
  refine (hThree HT.out x1 x2 y).mono ?_
  rintro e w2 ⟨v2, c2, rfl, -, hown2, hb2⟩
  obtain ⟨a2, k2, rfl, -, -, hr2⟩ := Rd.of_owns hown2
  have HT2 := Lib.hid (HT.out.below hb2 HT.out.hi_le)
  have HB2 := Lib.hid hb2
  have HR2 := Lib.hid hr2
  clear hb2 hr2 hown2
  go_wp2_with fail
  refine (hAny HT2.out x1 x2 y).mono ?_
  rintro e w3 ⟨⟨c3, rfl, -⟩, hb3⟩
  have HB3 := Lib.hid (HB2.out.trans (hb3.mono HB2.out.size))
  have HR3 := Lib.hid (HR2.out.below hb3)
  rw [← HLF.out]
  clear hb3 HT HT2 HLF HB2 HR2
  generalize hN : has3 l x1 x2 y = N at *
  have CS := Lib.hid (same13 a2 a' N l' N.length n' k2 c' w3 rfl HN'.out HR3.out (H'.out.below HB3.out) (by omega) hl')
  by_cases he : N = l'
  · have hd : decide (N = l') = true := by simp [he]
    have hlen : N.length = n' := by rw [he]; exact HN'.out
    rw [hd] at CS
    have HQ : Hid (hasQ3 l x1 x2 y l' = true) := by show decide _ = true; rw [hN]; exact hd
    rw [hlen] at CS ⊢
    have HSD : Hid (decide (0 < n') = decide ((0 : Int) < (n' : Int))) := by show _ = _; simp
    rw [HSD.out]
    have hd2 : (decide ((0 : Int) < (n' : Int)) == decide ((0 : Int) < (n' : Int))) = true := by simp
    clear hd he hN hlen HSD
    go_wp2_with fail
    refine CS.out.mono ?_
    rintro e w4 ⟨rfl, hb4⟩
    have HB4 := Lib.hid (HB3.out.trans (hb4.mono HB3.out.size))
    clear hb4
    go_wp2
    go_ret
    rw [HQ.out]
    exact ⟨rfl, HB4.out⟩
  · have hd : decide (N = l') = false := by simp [he]
    rw [hd] at CS
    have HQ : Hid (hasQ3 l x1 x2 y l' = false) := by show decide _ = false; rw [hN]; exact hd
    clear hd he hN
    go_wp2_with fail
    refine CS.out.mono ?_
    rintro e w4 ⟨rfl, hb4⟩
    have HB4 := Lib.hid (HB3.out.trans (hb4.mono HB3.out.size))
    clear hb4
    go_wp2
    go_ret
    rw [HQ.out]
    exact ⟨rfl, HB4.out⟩
end Go.Proofs.YtggfdlanobndjaaGreat
