/- The law HeapWeak, walked (printed by gen_l10x.py). -/
import Derived.Test.YtggfdlanobndjaaGreatL13w
import Derived.Test.YtggfdlanobndjaaGreatQ7
import Derived.Test.YtggfdlanobndjaaGreatWkP
import Derived.Test.YtggfdlanobndjaaGreatQ3
namespace Go.Proofs.YtggfdlanobndjaaGreat
open Go.RowKit Go.Maps
attribute [local irreducible] wpQuiet
set_option linter.unusedSimpArgs false
set_option linter.unusedVariables false

theorem bw_unl {l : List Pt} (h : unl l = true) (f : Pt → Bool) : unl (l.filter f).reverse = true := by
  unfold unl ids at *
  rw [decide_eq_true_eq] at *
  exact (((List.reverse_perm _).map _).nodup_iff).2 (h.sublist (List.Sublist.map _ List.filter_sublist))
theorem bw_gone {l : List Pt} {D : List Bool} (hn : l.Nodup) {i : Nat} (hi : i < l.length) : (∀ h : i < D.length, D[i] = true → wkG l D l[i] = true) ∧ (∀ h : i < D.length, D[i] = false → wkG l D l[i] = false) ∧ (D.length ≤ i → wkG l D l[i] = false) := by
  rw [wkG_at hn hi]
  refine ⟨fun h e => by simp [h, e], fun h e => by simp [h, e], fun h => by simp [List.getElem?_eq_none h]⟩
/-- what is left of the first i points, the last one first -/
def bwL (l : List Pt) (D : List Bool) (i : Nat) : List Pt := ((l.take i).filter fun q => !wkG l D q).reverse
theorem bwL_zero (l : List Pt) (D : List Bool) : bwL l D 0 = [] := by simp [bwL]
theorem bwL_yes {l : List Pt} {D : List Bool} {i : Nat} (hi : i < l.length) (h : wkG l D l[i] = true) : bwL l D (i + 1) = bwL l D i := by
  unfold bwL; rw [List.take_succ_eq_append_getElem hi, List.filter_append]; simp [h]
theorem bwL_no {l : List Pt} {D : List Bool} {i : Nat} (hi : i < l.length) (h : wkG l D l[i] = false) : bwL l D (i + 1) = l[i] :: bwL l D i := by
  unfold bwL; rw [List.take_succ_eq_append_getElem hi, List.filter_append]; simp [h]
theorem bwL_le (l : List Pt) (D : List Bool) (i : Nat) : (bwL l D i).length ≤ l.length := by
  unfold bwL; rw [List.length_reverse]
  refine Nat.le_trans (List.length_filter_le _ _) ?_
  rw [List.length_take]; omega
theorem has3_rev (l : List Pt) (x1 x2 y : Int) : has3 l.reverse x1 x2 y = has3 l x1 x2 y := by
  unfold has3
  refine srtI_of (srtI_sorted _) ((List.mergeSort_perm _ _).trans ?_)
  exact (((List.reverse_perm l).symm.filter _).map _)
theorem not_again (L : List Pt) (q : Pt) : decide (q ∈ L.filter fun r => decide (r ≠ q)) = false := by simp
theorem drop_again (L : List Pt) (q : Pt) : (L.filter fun r => decide (r ≠ q)).filter (fun r => decide (r ≠ q)) = L.filter fun r => decide (r ≠ q) := by simp [List.filter_filter]

set_option maxRecDepth 100000 in
set_option maxHeartbeats 8000000 in
theorem wHeapWeak (a : Option Addr) (l : List Pt) (n c : Nat) (ab : Option Addr) (BL : List Sd) (nb kb : Nat) (ad : Option Addr) (D : List Bool) (nd kd : Nat) (w : World) (hn : l.length = n) (h : RdK ePt 3 w a l) (hf : ∀ p ∈ l, (Lit.int .i64 p.1).wf = true ∧ (Lit.int .i64 p.2.1).wf = true ∧ (Lit.int .u32 p.2.2).wf = true)
    (hnb : BL.length = nb) (hB : RdK eSd 3 w ab BL) (hcb : nb ≤ kb ∧ kb ≤ maxLen) (hnd : D.length = nd) (hD : Rd .bool w ad D) (hcd : nd ≤ kd ∧ kd ≤ maxLen) :
    Calls Tryz.prog 6 #[.slice a n c, .slice ab nb kb, .slice ad nd kd] w fun e w' => e = .returned (.bool true) ∧ Below w.heap.size w w' := by
  subst hn hnb hnd
  have hw : wfN l := fun p hp => (hf p hp).2.2
  have AW := Lib.hid (fun W => awake13 W)
  have HR := Lib.hid h
  have HB := Lib.hid hB
  have HD := Lib.hid hD
  have HCB := Lib.hid hcb.1
  have hcd2 : D.length ≤ maxLen := Nat.le_trans hcd.1 hcd.2
  clear h hB hD hf hcb
  by_cases hlen : l.length ≤ 80
  · have dl : decide (80 < (l.length : Int)) = false := by simp; omega
    rcases Bool.eq_false_or_eq_true (unl l) with hu | hu
    · have HN := Lib.hid (nodup_ids (show (ids l).Nodup by unfold unl at hu; simpa using hu))
      have cb1 := Lib.hid (hBuild a c l w HR.out (by omega) hw hu)
      have HU := Lib.hid hu
      have HW := Lib.hid hw
      clear hu hw
      go_enter Tryz.func6, Tryz.ntmps6
      go_wp2_with fail
      refine cb1.out.mono ?_
      rintro e w1 ⟨t, rfl, T1, hb1⟩
      have HT1 := Lib.hid T1
      have HB1 := Lib.hid hb1
      have hs01 := hb1.size
      clear T1 hb1 cb1
      go_wp2
      go_loopw [9, 34] (fun lv iv wr => ∃ (i : Nat), iv = .int .i64 i ∧ i ≤ l.length ∧ Hid (wr.ownsRow w1.heap.size 34 3 lv (bwL l D i).length ((bwL l D i).flatMap ePt)) ∧ Hid (HepAt wr w.heap.size w1.heap.size t l.length (wkA l D (l.take i))) ∧ Hid (Below w.heap.size w wr) ∧ w1.heap.size ≤ wr.heap.size) (fun _ iv _ => l.length - (intOf iv).toNat)
      case atStart => exact ⟨0, rfl, Nat.zero_le _, by rw [bwL_zero]; exact World.ownsRow_nil _ _ _ _, Lib.hid (by rw [List.take_zero, wkA_nil]; exact HT1.out), HB1, Nat.le_refl _⟩
      case round =>
        obtain ⟨i, rfl, hi, HO, HT, HBR, hsr⟩ := hrel
        by_cases hlt : i < l.length
        · have hkl2 : (i : Int) < (l.length : Int) := by omega
          obtain ⟨b2, off, ea, hbl, hcs⟩ := (HR.out.below HBR.out).get (by omega)
          have x0 := hcs i hlt 0 (by omega)
          have x1 := hcs i hlt 1 (by omega)
          have x2 := hcs i hlt 2 (by omega)
          simp only [ePt, List.getElem?_cons_zero, List.getElem?_cons_succ, Nat.add_zero] at x0 x1 x2
          obtain ⟨hg1, hg2, hg3⟩ := bw_gone (D := D) HN.out hlt
          have LY := Lib.hid (fun (h : wkG l D l[i] = true) => bwL_yes (D := D) hlt h)
          have LN := Lib.hid (fun (h : wkG l D l[i] = false) => bwL_no (D := D) hlt h)
          have AY := Lib.hid (fun (h : wkG l D l[i] = true) => wkA_yes (l := l) (D := D) (x := l[i]) h (mem_take_more hlt))
          have AN := Lib.hid (fun (h : wkG l D l[i] = false) => wkA_no (l := l) (D := D) (x := l[i]) h (mem_take_more hlt))
          have AM := Lib.hid (wkA_mem (D := D) (List.getElem_mem hlt) (not_take HN.out hlt))
          have DT := Lib.hid (fun (W : World) (L : List Pt) (h : HepAt W w.heap.size w1.heap.size t l.length L) p => hDrop h p)
          have HG1 := Lib.hid hg1
          have HG2 := Lib.hid hg2
          have HG3 := Lib.hid hg3
          have EA := Lib.hid ea
          clear hcs ea hg1 hg2 hg3
          generalize hq : l[i] = q at *
          clear hq
          obtain ⟨q1, q2, q3⟩ := q
          simp only at x0 x1 x2
          obtain rfl := EA.out
          clear EA
          by_cases hiD : i < D.length
          · obtain ⟨b3, off3, ea3, hbl3, hcs3⟩ := (HD.out.below HBR.out).get (by omega)
            have z0 := hcs3 i hiD
            have EA := Lib.hid ea3
            clear hcs3 ea3
            have hiD2 : decide ((D.length : Int) ≤ (i : Int)) = false := by simp; omega
            rcases Bool.eq_false_or_eq_true D[i] with hDi | hDi
            · have HQ := Lib.hid (HG1.out hiD hDi)
              rw [hDi] at z0
              obtain rfl := EA.out
              clear EA hDi
              clear HG1 HG2 HG3
              obtain ⟨w4, ew4⟩ : ∃ w4, w4 = wr.alloc (.cells #[.int .i64 q1, .int .i64 q2, .int .u32 q3] 34) := ⟨_, rfl⟩
              have b4 : Below wr.heap.size wr w4 := by rw [ew4]; exact (Below.refl _ _).alloc (Nat.le_refl _) _
              have X4 : w4.heap[wr.heap.size]? = some (obP (q1, q2, q3)) := by rw [ew4]; exact lit0 _ _
              have HB4 := Lib.hid (HBR.out.trans (b4.mono HBR.out.size))
              have hs4 : w1.heap.size ≤ w4.heap.size := Nat.le_trans hsr b4.size
              have EX := ew4.symm
              obtain ⟨y3, y4, y5⟩ := obP_cells X4
              simp only at y3 y4 y5
              have HT4 := Lib.hid (HT.out.below b4 HT.out.hi_le)
              have HO4 := Lib.hid (owns_sameH HO.out fun gb e => b4.block gb (HO.out.lt gb e).2)
              have XH := Lib.hid X4
              have z4 := (World.cell?_of_block (b4.block b3 (World.block_lt_of_cell? wr _ z0))).trans z0
              clear ew4 X4 HT HO HBR b4
              go_wp2_with fail
              (try rw [EX])
              have X4 := XH.out
              clear XH EX x0 x1 x2 z0 z4 y3 y4 y5
              refine (DT.out _ _ HT4.out (q1, q2, q3)).mono ?_
              rintro e w5 ⟨rfl, hT5, hk5⟩
              have hmm : decide ((q1, q2, q3) ∈ wkA l D (l.take i)) = true := by simpa using AM.out
              rw [hmm]
              have X5 := blkK hk5 X4 (by omega)
              obtain ⟨y3, y4, y5⟩ := obP_cells X5
              simp only at y3 y4 y5
              have HT5 := Lib.hid hT5
              have HO5 := Lib.hid (rowK HO4.out hk5 (fun g e h => by have := (HO4.out.lt g e).1; have := h.2; omega))
              have HB5 := Lib.hid (HB4.out.trans (hk5.toBelow HB4.out.size (fun k h => h.1)))
              have hs5 := Nat.le_trans hs4 hk5.size
              clear X4 X5 hT5 hk5 HT4 HO4 HB4 hs4 hmm
              go_wp2_with fail
              clear y3 y4 y5
              refine (DT.out _ _ HT5.out (q1, q2, q3)).mono ?_
              rintro e w6 ⟨rfl, hT6, hk6⟩
              rw [not_again]
              rw [drop_again] at hT6
              have HT6 := Lib.hid hT6
              have HO6 := Lib.hid (rowK HO5.out hk6 (fun g e h => by have := (HO5.out.lt g e).1; have := h.2; omega))
              have HB6 := Lib.hid (HB5.out.trans (hk6.toBelow HB5.out.size (fun k h => h.1)))
              have hs6 := Nat.le_trans hs5 hk6.size
              clear hT6 hk6 HT5 HO5 HB5 hs5
              go_wp2
              exact ⟨⟨i + 1, by go_num, by omega, Lib.hid (by rw [LY.out HQ.out]; exact HO6.out), Lib.hid (by rw [← AY.out HQ.out]; exact HT6.out), HB6, hs6⟩, by simp [intOf]; omega⟩
            · have HQ := Lib.hid (HG2.out hiD hDi)
              rw [hDi] at z0
              obtain rfl := EA.out
              clear EA hDi
              clear HG1 HG2 HG3
              have Z0 := Lib.hid z0
              clear z0
              obtain ⟨ag, kg, rfl, -, -, hrg⟩ := RdK.of_owns ePt_len (by decide) HO.out
              have HRG := Lib.hid hrg
              have hLl := bwL_le l D i
              have HLC := Lib.hid (LN.out HQ.out)
              clear hrg LN LY AY AM DT HO
              obtain ⟨w4, ew4⟩ : ∃ w4, w4 = wr.alloc (.cells #[.int .i64 q1, .int .i64 q2, .int .u32 q3] 34) := ⟨_, rfl⟩
              have b4 : Below wr.heap.size wr w4 := by rw [ew4]; exact (Below.refl _ _).alloc (Nat.le_refl _) _
              have X4 : w4.heap[wr.heap.size]? = some (obP (q1, q2, q3)) := by rw [ew4]; exact lit0 _ _
              have HB4 := Lib.hid (HBR.out.trans (b4.mono HBR.out.size))
              have hs4 : w1.heap.size ≤ w4.heap.size := Nat.le_trans hsr b4.size
              have EX := ew4.symm
              obtain ⟨y3, y4, y5⟩ := obP_cells X4
              simp only at y3 y4 y5
              have HT4 := Lib.hid (HT.out.below b4 HT.out.hi_le)
              have HRG4 := Lib.hid (HRG.out.below b4)
              have z4 := (World.cell?_of_block (b4.block b3 (World.block_lt_of_cell? wr _ Z0.out))).trans Z0.out
              clear ew4 b4 X4 HT HBR HRG hsr
              generalize hLL : bwL l D i = L at *
              have hown := World.ownsRow_lit (base := w1.heap.size) (e := 34) (size := 3) w4 #[.int .i64 q1, .int .i64 q2, .int .u32 q3] 1 hs4 (by unfold maxLen; omega) rfl
              have hrd := HRG4.out.below ((Below.refl _ w4).alloc (Nat.le_refl _) (.cells #[.int .i64 q1, .int .i64 q2, .int .u32 q3] 34))
              have HHO := Lib.hid hown
              have HHR := Lib.hid hrd
              clear hown hrd HRG4
              go_wp2_with (at_builtin; refine wp_appendK elPt10 ePt_len ePt_one w1.heap.size HHO.out HHR.out rfl _ _ rfl rfl kg rfl (by unfold maxLen; omega) (by omega) (by simp; omega) ?_; intro v5 w5 hown5 hg5)
              have b5 : Below w1.heap.size w4 w5 := below_grown ((Below.refl _ _).alloc hs4 _) HHO.out hg5 (by simp; omega) (Nat.le_refl _)
              exact ⟨⟨i + 1, by go_num, by omega, Lib.hid (by rw [HLC.out, List.length_cons, List.flatMap_cons, Nat.add_comm]; exact hown5), Lib.hid (by rw [AN.out HQ.out]; exact HT4.out.below b5 (Nat.le_refl _)), Lib.hid (HB4.out.trans (b5.mono hs01)), Nat.le_trans hs4 b5.size⟩, by simp [intOf]; omega⟩
          · have hiD2 : decide ((D.length : Int) ≤ (i : Int)) = true := by simp; omega
            have HQ := Lib.hid (HG3.out (by omega))
            clear HG1 HG2 HG3
            obtain ⟨ag, kg, rfl, -, -, hrg⟩ := RdK.of_owns ePt_len (by decide) HO.out
            have HRG := Lib.hid hrg
            have hLl := bwL_le l D i
            have HLC := Lib.hid (LN.out HQ.out)
            clear hrg LN LY AY AM DT HO
            obtain ⟨w4, ew4⟩ : ∃ w4, w4 = wr.alloc (.cells #[.int .i64 q1, .int .i64 q2, .int .u32 q3] 34) := ⟨_, rfl⟩
            have b4 : Below wr.heap.size wr w4 := by rw [ew4]; exact (Below.refl _ _).alloc (Nat.le_refl _) _
            have X4 : w4.heap[wr.heap.size]? = some (obP (q1, q2, q3)) := by rw [ew4]; exact lit0 _ _
            have HB4 := Lib.hid (HBR.out.trans (b4.mono HBR.out.size))
            have hs4 : w1.heap.size ≤ w4.heap.size := Nat.le_trans hsr b4.size
            have EX := ew4.symm
            obtain ⟨y3, y4, y5⟩ := obP_cells X4
            simp only at y3 y4 y5
            have HT4 := Lib.hid (HT.out.below b4 HT.out.hi_le)
            have HRG4 := Lib.hid (HRG.out.below b4)
            clear ew4 b4 X4 HT HBR HRG hsr
            generalize hLL : bwL l D i = L at *
            have hown := World.ownsRow_lit (base := w1.heap.size) (e := 34) (size := 3) w4 #[.int .i64 q1, .int .i64 q2, .int .u32 q3] 1 hs4 (by unfold maxLen; omega) rfl
            have hrd := HRG4.out.below ((Below.refl _ w4).alloc (Nat.le_refl _) (.cells #[.int .i64 q1, .int .i64 q2, .int .u32 q3] 34))
            have HHO := Lib.hid hown
            have HHR := Lib.hid hrd
            clear hown hrd HRG4
            go_wp2_with (at_builtin; refine wp_appendK elPt10 ePt_len ePt_one w1.heap.size HHO.out HHR.out rfl _ _ rfl rfl kg rfl (by unfold maxLen; omega) (by omega) (by simp; omega) ?_; intro v5 w5 hown5 hg5)
            have b5 : Below w1.heap.size w4 w5 := below_grown ((Below.refl _ _).alloc hs4 _) HHO.out hg5 (by simp; omega) (Nat.le_refl _)
            exact ⟨⟨i + 1, by go_num, by omega, Lib.hid (by rw [HLC.out, List.length_cons, List.flatMap_cons, Nat.add_comm]; exact hown5), Lib.hid (by rw [AN.out HQ.out]; exact HT4.out.below b5 (Nat.le_refl _)), Lib.hid (HB4.out.trans (b5.mono hs01)), Nat.le_trans hs4 b5.size⟩, by simp [intOf]; omega⟩
        · obtain rfl : i = l.length := by omega
          have HUG := Lib.hid (bw_unl HU.out (fun q => !wkG l D q))
          have hHT := HT.out
          rw [List.take_length, wkA_all (fun _ h => h)] at hHT
          have hHO : wr.ownsRow w1.heap.size 34 3 u9 (l.filter fun q => !wkG l D q).reverse.length ((l.filter fun q => !wkG l D q).reverse.flatMap ePt) := by have h9 := HO.out; unfold bwL at h9; rw [List.take_length] at h9; exact h9
          have WG := Lib.hid (show wfN (l.filter fun q => !wkG l D q).reverse from fun p hp => HW.out p (List.mem_filter.1 (List.mem_reverse.1 hp)).1)
          have hgl : (l.filter fun q => !wkG l D q).length ≤ 80 := Nat.le_trans (List.length_filter_le _ _) hlen
          clear HT HO
          generalize (l.filter fun q => !wkG l D q) = G at *
          have hRG : ∀ x1 x2 y, has3 G x1 x2 y = has3 G.reverse x1 x2 y := fun x1 x2 y => (has3_rev G x1 x2 y).symm
          have hLG : G.length = G.reverse.length := by simp
          have LT := Lib.hid (fun W (hb : Below wr.heap.size wr W) => hLen (hHT.below hb hHT.hi_le))
          rw [hLG] at LT hgl
          have RT := Lib.hid (fun W (hb : Below wr.heap.size wr W) x1 x2 y => (hThree (hHT.below hb hHT.hi_le) x1 x2 y).mono fun e w' ⟨v, c, he, _, hr, hb⟩ => show ∃ v, ∃ c : Nat, e = Ending.returned (.tuple #[v, .int .i64 (c : Nat)]) ∧ w'.ownsRow W.heap.size 32 1 v (has3 G.reverse x1 x2 y).length ((has3 G.reverse x1 x2 y).map (Value.int .u32)) ∧ Below W.heap.size W w' from ⟨v, c, he, by rw [← hRG]; exact hr, hb⟩)
          clear hHT hRG hLG
          generalize G.reverse = R at *
          obtain ⟨ag, kg, rfl, -, -, hrg⟩ := RdK.of_owns ePt_len (by decide) hHO
          have HRG := Lib.hid hrg
          clear hHO hrg
          obtain ⟨wx, ewx⟩ : ∃ wx : World, wx = wr := ⟨_, rfl⟩
          subst ewx
          go_wp2_with fail
          refine (hBuild ag kg R wx HRG.out (by omega) WG.out HUG.out).mono ?_
          rintro e w3 ⟨tv, rfl, Y3, hb3⟩
          have LU := Lib.hid (fun W (hb : Below w3.heap.size w3 W) => hLen (Y3.below hb Y3.hi_le))
          have RU := Lib.hid (fun W (hb : Below w3.heap.size w3 W) x1 x2 y => (hThree (Y3.below hb Y3.hi_le) x1 x2 y).mono fun e w' ⟨v, c, he, _, hr, hb⟩ => show ∃ v, ∃ c : Nat, e = Ending.returned (.tuple #[v, .int .i64 (c : Nat)]) ∧ w'.ownsRow W.heap.size 32 1 v (has3 R x1 x2 y).length ((has3 R x1 x2 y).map (Value.int .u32)) ∧ Below W.heap.size W w' from ⟨v, c, he, hr, hb⟩)
          have HBX := Lib.hid hb3
          have HB3 := Lib.hid (HBR.out.trans (hb3.mono HBR.out.size))
          clear Y3 hb3 HRG WG HUG
          obtain ⟨mb, hmb, hmb1, hmb2⟩ : ∃ m : Nat, min (BL.length : Int) 12 = (m : Int) ∧ m ≤ BL.length ∧ m ≤ 12 := ⟨min BL.length 12, by omega, by omega, by omega⟩
          have HMB := Lib.hid hmb
          clear hmb
          go_wp2_with fail
          refine (LT.out _ HBX.out).mono ?_
          rintro e w4 ⟨rfl, rfl⟩
          go_wp2_with fail
          refine (LU.out _ (Below.refl _ _)).mono ?_
          rintro e w6 ⟨rfl, rfl⟩
          have hmb : min (BL.length : Int) 12 = (mb : Int) := HMB.out
          go_wp2_with (refine wp_sliceK elSd (HB.out.below HB3.out) HCB.out 0 mb (Nat.zero_le _) hmb1 rfl _ _ _ rfl rfl rfl rfl ?_; intro ad' hr; simp only [Nat.sub_zero, List.drop_zero] at hr ⊢)
          have hPl : (BL.take mb).length = mb := by simp; omega
          have HPR := Lib.hid hr
          clear hr LT LU hmb HMB HB HCB hmb1
          generalize BL.take mb = P at *
          subst hPl
          go_loopw [84] (fun kv wr => ∃ k : Nat, kv = .int .i64 k ∧ k ≤ P.length ∧ Hid (Below w6.heap.size w6 wr)) (fun kv _ => P.length - (intOf kv).toNat)
          case atStart => exact ⟨0, rfl, Nat.zero_le _, Lib.hid (Below.refl _ _)⟩
          case round =>
            obtain ⟨k, rfl, hk, HBK⟩ := hrel
            by_cases hkl : k < P.length
            · have hb := HBK.out
              obtain ⟨b9, off9, ea, hbl, hcs⟩ := (HPR.out.below hb).get (by omega)
              have x0 := hcs k hkl 0 (by omega)
              have x1 := hcs k hkl 1 (by omega)
              have x2 := hcs k hkl 2 (by omega)
              simp only [eSd, List.getElem?_cons_zero, List.getElem?_cons_succ, Nat.add_zero] at x0 x1 x2
              have EA := Lib.hid ea
              clear hcs ea
              generalize P[k] = q at *
              obtain ⟨q1, q2, q3⟩ := q
              simp only at x0 x1 x2
              have hkl2 : (k : Int) < (P.length : Int) := by omega
              obtain rfl := EA.out
              clear EA
              obtain ⟨w7, ew7⟩ : ∃ w7, w7 = wr.alloc (.cells #[.int .i64 q1, .int .i64 q2, .int .i64 q3] 50) := ⟨_, rfl⟩
              have b7 : Below wr.heap.size wr w7 := by rw [ew7]; exact (Below.refl _ _).alloc (Nat.le_refl _) _
              have X7 : w7.heap[wr.heap.size]? = some (objSd (q1, q2, q3)) := by rw [ew7]; exact lit0 _ _
              have B7 := hb.trans (b7.mono hb.size)
              have EX := ew7.symm
              obtain ⟨y0, y1, y2⟩ := objSd_cells X7
              clear ew7 b7 hb
              have XH := Lib.hid X7
              clear X7
              go_wp2_with fail
              have X7 := XH.out
              (try rw [EX])
              clear XH EX x0 x1 x2 y0 y1 y2
              refine (RT.out _ (HBX.out.trans (B7.mono HBX.out.size)) q1 q2 q3).mono ?_
              rintro e w8 ⟨v8, c8, rfl, hown8, hb8⟩
              obtain ⟨a8, k8, rfl, -, -, hr8⟩ := Rd.of_owns hown8
              have B8 := B7.trans (hb8.mono B7.size)
              have X8 := (hb8.block _ (Array.getElem?_eq_some_iff.1 X7).1).trans X7
              have R8_8 := Lib.hid hr8
              clear B7 X7 hb8 hown8 hr8
              obtain ⟨y0, y1, y2⟩ := objSd_cells X8
              have XH := Lib.hid X8
              clear X8
              go_wp2_with fail
              clear XH y0 y1 y2
              refine (RU.out _ B8 q1 q2 q3).mono ?_
              rintro e w10 ⟨v9, c9, rfl, hown9, hb9⟩
              obtain ⟨a9, k9, rfl, -, -, hr9⟩ := Rd.of_owns hown9
              have B10 := B8.trans (hb9.mono B8.size)
              have R8_10 := Lib.hid (R8_8.out.below hb9)
              have R9_10 := Lib.hid hr9
              clear B8 hb9 hown9 hr9 R8_8
              have hgN : (has3 R q1 q2 q3).length ≤ 80 := by rw [has3_len]; exact Nat.le_trans (List.length_filter_le _ _) hgl
              generalize has3 R q1 q2 q3 = N at *
              go_wp2_with fail
              refine (same13 a8 a9 N N _ _ k8 k9 w10 rfl rfl R8_10.out R9_10.out (by omega) (by omega)).mono ?_
              rintro e w11 ⟨rfl, hb11⟩
              have B11 := B10.trans (hb11.mono B10.size)
              have hdt : decide (N = N) = true := by simp
              clear B10 hb11 R8_10 R9_10
              go_wp2
              exact ⟨⟨k + 1, by go_num, by omega, Lib.hid B11⟩, by simp [intOf]; omega⟩
            · obtain rfl : k = P.length := by omega
              have HBZ := Lib.hid (HB3.out.trans (HBK.out.mono HB3.out.size))
              go_wp2_with (go_at_call 15; refine (AW.out _).mono ?_; rintro e w9 ⟨rfl, hb9⟩)
              go_ret
              exact ⟨rfl, HBZ.out.trans (hb9.mono HBZ.out.size)⟩
    · have cd := Lib.hid (heap_build_bad a c l w HR.out (by omega) hw hu)
      clear hw hu
      go_enter Tryz.func6, Tryz.ntmps6
      go_wp2_with (first
        | (go_at_call 16; refine cd.out.mono ?_; rintro e w2 ⟨rfl, hb2⟩)
        | (go_at_call 15; refine (AW.out _).mono ?_; rintro e w3 ⟨rfl, hb3⟩))
      go_ret
      exact ⟨rfl, hb2.trans (hb3.mono hb2.size)⟩
  · have dl : decide (80 < (l.length : Int)) = true := by simp; omega
    go_enter Tryz.func6, Tryz.ntmps6
    go_wp2_with (go_at_call 15; refine (AW.out _).mono ?_; rintro e w3 ⟨rfl, hb3⟩)
    go_ret
    exact ⟨rfl, hb3⟩
end Go.Proofs.YtggfdlanobndjaaGreat
