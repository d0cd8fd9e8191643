/- The law LowTells, walked. -/
import Derived.Test.YtggfdlanobndjaaGreatL14a
import Derived.Test.YtggfdlanobndjaaGreatQ6
import Derived.Test.YtggfdlanobndjaaGreatQ3
import Derived.Test.YtggfdlanobndjaaGreatQ7
namespace Go.Proofs.YtggfdlanobndjaaGreat
open Go.RowKit Go.Maps
attribute [local irreducible] wpQuiet
attribute [local go_sem] Oper.still1
set_option linter.unusedSimpArgs false
set_option linter.unusedVariables false

set_option maxRecDepth 100000 in
set_option maxHeartbeats 8000000 in
theorem wLowTells (a : Option Addr) (l : List Pt) (n c : Nat) (ab : Option Addr) (BL : List Sd) (nb cb : Nat) (ad : Option Addr) (D : List Pt) (nd cd : Nat) (w : World) (hn : l.length = n) (h : RdK ePt 3 w a l) (hf : ∀ p ∈ l, (Lit.int .i64 p.1).wf = true ∧ (Lit.int .i64 p.2.1).wf = true ∧ (Lit.int .u32 p.2.2).wf = true)
    (hnb : BL.length = nb) (hB : RdK eSd 3 w ab BL) (hcb : nb ≤ cb ∧ cb ≤ maxLen) (hm : D.length = nd) (h' : RdK ePt 3 w ad D) (hc' : nd ≤ cd ∧ cd ≤ maxLen) :
    Calls Tryz.prog 10 #[.slice a n c, .slice ab nb cb, .slice ad nd cd] w fun e w' => e = .returned (.bool true) ∧ Below w.heap.size w w' := by
  subst hn hm hnb
  have hw : wfN l := fun p hp => (hf p hp).2.2
  have AW := Lib.hid (fun W => awake14 W)
  by_cases hlen : l.length ≤ 60
  · have dl : decide (60 < (l.length : Int)) = false := by simp; omega
    obtain ⟨mb, hmb, hmb1, hmb2⟩ : ∃ m : Nat, min (BL.length : Int) 12 = (m : Int) ∧ m ≤ BL.length ∧ m ≤ 12 := ⟨min BL.length 12, by omega, by omega, by omega⟩
    obtain ⟨md, hmd, hmd1, hmd2⟩ : ∃ m : Nat, min (D.length : Int) 14 = (m : Int) ∧ m ≤ D.length ∧ m ≤ 14 := ⟨min D.length 14, by omega, by omega, by omega⟩
    have hcb1 := hcb.1
    have hcd1 := hc'.1
    have HP := Lib.hid h
    have HB := Lib.hid hB
    have HDR := Lib.hid h'
    clear h hB h' hf
    go_enter Tryz.func10, Tryz.ntmps10
    go_wp2
    refine wp_region_head (fun W => True) [10, 11] [(0, false), (1, false), (2, false), (3, false), (4, false), (5, false), (6, false), (7, false), (8, false), (9, false)] (by kernel_rfl) (by kernel_rfl) (fun _ _ d _ _ h => by cases d <;> exact h) trivial 2 rfl (by kernel_rfl) ?_
    simp only [pickB, List.filterMap_cons, List.filterMap_nil, List.getElem?_toArray, List.getElem?_cons_succ, List.getElem?_cons_zero, Option.map_some]
    iterate 4 (refine wpHd_step (fun K hK => ?_); go_simp; first | (refine hK _ ?_; clear hK K) | (apply Exists.intro; refine ⟨fun _ => ?_, hK _ ?_⟩; rfl; clear hK K))
    refine wpHd_step (fun K hK => ?_)
    refine step_hdSlice (enc := eSd) elPa ab BL BL.length cb mb rfl hcb1 hmb1 rfl (.tmp 18) (.tmp 21) rfl rfl rfl ?_
    intro ab' hab
    refine hK _ ?_
    clear hK K
    iterate 4 (refine wpHd_step (fun K hK => ?_); go_simp; first | (refine hK _ ?_; clear hK K) | (apply Exists.intro; refine ⟨fun _ => ?_, hK _ ?_⟩; rfl; clear hK K))
    refine wpHd_step (fun K hK => ?_)
    refine step_hdSlice (enc := ePt) elPt10 ad D D.length cd md rfl hcd1 hmd1 rfl (.tmp 23) (.tmp 26) rfl rfl rfl ?_
    intro ad' had
    refine hK _ ?_
    clear hK K
    refine wpHd_nil ?_
    refine wpAnyT_line [10, 11] _ _ _ (by kernel_rfl) ?_
    simp only [pick, List.filterMap_cons, List.filterMap_nil, List.getElem?_toArray, List.getElem?_cons_succ, List.getElem?_cons_zero]
    have B1 : Below w.heap.size w w.drew := (Below.refl _ _).drew
    have HP1 := Lib.hid (HP.out.below B1)
    have HB1 := Lib.hid (hab _ (HB.out.below B1))
    have HD1 := Lib.hid (had _ (HDR.out.below B1))
    have hPl : (BL.take mb).length = mb := by simp; omega
    have hDl : (D.take md).length = md := by simp; omega
    clear HP HB HDR hab had hmb hmd hmb1 hmd1 hcb hc'
    generalize BL.take mb = P at *
    generalize D.take md = DP at *
    have hs0 : w.heap.size = w.drew.heap.size := rfl
    generalize w.drew = w1 at *
    subst hPl hDl
    rcases Bool.eq_false_or_eq_true (unl l) with hu | hu
    · have HU : Hid (ids l).Nodup := by show (ids l).Nodup; unfold unl at hu; simpa using hu
      have cb1 := Lib.hid (lBuild a c l w1 HP1.out (by omega) hw hu)
      have cr := Lib.hid (fun W (hb : Below w1.heap.size w1 W) => ref_right a l l.length c W rfl (HP1.out.below hb) (by omega))
      rw [hu] at cr
      go_wp2_with (first
        | (go_at_call 32; refine cb1.out.mono ?_; rintro e w2 ⟨tb, rfl, T2, hb2⟩)
        | (go_at_call 17; refine (cr.out _ hb2).mono ?_; rintro e w3 ⟨rfl, hb3⟩; have B3 := hb2.trans (hb3.mono hb2.size); have T3 := T2.below hb3 T2.hi_le; have ca := Lib.hid (asked14 a l l.length c ab' P P.length cb w3 rfl (HP1.out.below B3) HU.out T3 rfl (HB1.out.below B3) (by omega)))
        | (go_at_call 37; refine ca.out.mono ?_; rintro e w4 ⟨rfl, hb4⟩; have B4 := B3.trans (hb4.mono B3.size); have hown := World.ownsRow_made (e := 34) (size := 3) w4 #[] 0 (Nat.le_refl _) (Nat.zero_le _) rfl; have h4 : RdK ePt 3 (w4.alloc (.cells #[] 34)) a l := HP1.out.below (B4.trans (((Below.refl _ _).alloc (Nat.le_refl _) _).mono B4.size)))
        | (at_builtin; refine wp_appendK elPoint ePt_len ePt_one w4.heap.size hown h4 rfl _ _ rfl rfl c rfl (by unfold maxLen; omega) (by omega) (by simp) ?_; intro v5 w5 hown5 hg5; have b5 := below_grown ((Below.refl _ _).alloc (Nat.le_refl _) _) hown hg5 (by simp) (Nat.le_refl _)))
      rw [Nat.zero_add, List.nil_append] at hown5
      have hs2 := T2.hi_le
      have hs4 : w2.heap.size ≤ w4.heap.size := by have := hb3.size; have := hb4.size; omega
      have B5 := B4.trans (b5.mono B4.size)
      have T5 := T3.below (hb4.trans (b5.mono hb4.size)) T3.hi_le
      have HO5 := Lib.hid (rowMono hown5 hs4)
      have HT5 := Lib.hid T5
      have DPR := Lib.hid (fun (W : World) (L : List Pt) (a' : Option Addr) (c' : Nat) (p : Pt) (hL : L.length ≤ 1000) (h : RdK ePt 3 W a' L) => ref10_drop a' L L.length c' p W rfl h (by omega))
      have TDR := Lib.hid (fun (W : World) (L : List Pt) (hT : LowAt W w1.heap.size w2.heap.size tb l.length L) (p : Pt) => lDrop hT p)
      have ASK := Lib.hid (fun (W : World) (L : List Pt) (a' : Option Addr) (c' : Nat) (h : RdK ePt 3 W a' L) (hu : (ids L).Nodup) (hT : LowAt W w1.heap.size w2.heap.size tb l.length L) (hB : RdK eSd 3 W ab' P) => asked14 a' L L.length c' ab' P P.length cb W rfl h hu hT rfl hB (by omega))
      have hb12 := hb2.size
      clear hown5 T5 T3 T2 ca hown h4 hg5 b5 B3 hb2 hb3 hb4 cr cb1 hs2
      go_loopw [9, 60] (fun v kv wr => ∃ (k : Nat) (L : List Pt), kv = .int .i64 k ∧ k ≤ DP.length ∧ Hid (LowAt wr w1.heap.size w2.heap.size tb l.length L) ∧ Hid (ids L).Nodup ∧ Hid (wr.ownsRow w2.heap.size 34 3 v L.length (L.flatMap ePt)) ∧ Below w1.heap.size w1 wr) (fun _ kv _ => DP.length - (intOf kv).toNat)
      case atStart => exact ⟨0, l, rfl, Nat.zero_le _, HT5, HU, HO5, B5⟩
      case round =>
        clear HT5 HO5 B5
        obtain ⟨k, L, rfl, hk, HT, HN, HO, hb⟩ := hrel
        by_cases hkl : k < DP.length
        · have few := HT.out.few2
          obtain ⟨b2, off, ea, hbl, hcs⟩ := (HD1.out.below hb).get (by omega)
          have x0 := hcs k hkl 0 (by omega)
          have x1 := hcs k hkl 1 (by omega)
          have x2 := hcs k hkl 2 (by omega)
          simp only [ePt, List.getElem?_cons_zero, List.getElem?_cons_succ, Nat.add_zero] at x0 x1 x2
          have EA := Lib.hid ea
          clear hcs ea
          generalize DP[k] = q at *
          obtain ⟨q1, q2, q3⟩ := q
          simp only at x0 x1 x2
          have hkl2 : (k : Int) < (DP.length : Int) := by omega
          obtain rfl := EA.out
          clear EA
          obtain ⟨w6, ew6⟩ : ∃ w6, w6 = wr.alloc (.cells #[.int .i64 q1, .int .i64 q2, .int .u32 q3] 34) := ⟨_, rfl⟩
          have b6 : Below wr.heap.size wr w6 := by rw [ew6]; exact (Below.refl _ _).alloc (Nat.le_refl _) _
          have X6 : w6.heap[wr.heap.size]? = some (obP (q1, q2, q3)) := by rw [ew6]; exact lit0 _ _
          have hs6 : wr.heap.size < w6.heap.size := (Array.getElem?_eq_some_iff.1 X6).1
          have B6 := hb.trans (b6.mono hb.size)
          have T6 := HT.out.below b6 HT.out.hi_le
          have hhi := HT.out.hi_le
          have EX := ew6.symm
          obtain ⟨y0, y1, y2⟩ := obP_cells X6
          clear ew6
          have HO6 := ownsRow_below HO.out b6
          obtain ⟨a6, c6, rfl, -, -, hr6⟩ := RdK.of_owns ePt_len (by decide) HO.out
          have c8 := Lib.hid (DPR.out w6 L a6 c6 (q1, q2, q3) (by omega) (hr6.below b6))
          clear b6 hr6 HO6 HO
          go_wp2_with (go_at_call 20; (try rw [EX]); refine c8.out.mono ?_; rintro e w7 ⟨v7, rfl, hown7, hb7⟩; have X7 := (hb7.block _ hs6).trans X6; obtain ⟨z0, z1, z2⟩ := obP_cells X7; clear EX x0 x1 x2 y0 y1 y2)
          have B7 := B6.trans (hb7.mono B6.size)
          have T7 := T6.below hb7 T6.hi_le
          have hs7 := hb7.size
          have HO7 := Lib.hid (rowMono hown7 (Nat.le_trans hhi (Nat.le_of_lt hs6)))
          clear hown7 hb7 T6 B6 c8 X6
          refine (TDR.out w7 L T7 (q1, q2, q3)).mono ?_
          rintro e w8 ⟨rfl, T8, hk8⟩
          have B8 := B7.trans (hk8.toBelow B7.size (fun k h => h.1))
          have HO8 := rowK HO7.out hk8 (fun g e h => by have := (HO7.out.lt g e).1; have := h.2; omega)
          clear hk8 T7 B7 HO7 X7 z0 z1 z2
          have HN8 : Hid (ids (L.filter fun q => decide (q ≠ (q1, q2, q3)))).Nodup := HN.out.sublist (List.filter_sublist.map _)
          generalize (L.filter fun q => decide (q ≠ (q1, q2, q3))) = M at *
          generalize decide ((q1, q2, q3) ∈ L) = dd at *
          obtain ⟨a8, k8, rfl, -, -, hr8⟩ := RdK.of_owns ePt_len (by decide) HO8
          have c9 := Lib.hid (ASK.out w8 _ a8 k8 hr8 HN8.out T8 (HB1.out.below B8))
          have HT8 := Lib.hid T8
          have HR8 := Lib.hid HO8
          clear T8 HO8 hr8
          go_wp2_with (go_at_call 37; refine c9.out.mono ?_; rintro e w9 ⟨rfl, hb9⟩)
          exact ⟨⟨k + 1, _, by go_num, by omega, HT8.out.below hb9 HT8.out.hi_le, HN8, ownsRow_below HR8.out hb9, B8.trans (hb9.mono B8.size)⟩, by simp [intOf]; omega⟩
        · obtain rfl : k = DP.length := by omega
          go_wp2_with (go_at_call 31; refine (AW.out _).mono ?_; rintro e w9 ⟨rfl, hb9⟩)
          go_ret
          exact ⟨rfl, B1.trans ((hb.trans (hb9.mono hb.size)).mono B1.size)⟩
    · have cb1 := Lib.hid (low_build_bad a c l w1 HP1.out (by omega) hw hu)
      have cr := Lib.hid (fun W (hb : Below w1.heap.size w1 W) => ref_right a l l.length c W rfl (HP1.out.below hb) (by omega))
      rw [hu] at cr
      go_wp2_with (first
        | (go_at_call 32; refine cb1.out.mono ?_; rintro e w2 ⟨rfl, hb2⟩)
        | (go_at_call 17; refine (cr.out _ hb2).mono ?_; rintro e w3 ⟨rfl, hb3⟩)
        | (go_at_call 36; refine (low_len_nil _).mono ?_; rintro e w9 ⟨rfl, rfl⟩)
        | (go_at_call 31; refine (AW.out _).mono ?_; rintro e w4 ⟨rfl, hb4⟩))
      go_ret
      have B3 := hb2.trans (hb3.mono hb2.size)
      exact ⟨rfl, B1.trans ((B3.trans (hb4.mono B3.size)).mono B1.size)⟩
  · have dl : decide (60 < (l.length : Int)) = true := by simp; omega
    go_enter Tryz.func10, Tryz.ntmps10
    go_wp2_with (go_at_call 31; refine (AW.out _).mono ?_; rintro e w3 ⟨rfl, hb3⟩)
    go_ret
    exact ⟨rfl, hb3⟩
end Go.Proofs.YtggfdlanobndjaaGreat
