/- The law LowDrops, walked. -/
import Derived.Test.YtggfdlanobndjaaGreatL14a
import Derived.Test.YtggfdlanobndjaaGreatL14q
import Derived.Test.YtggfdlanobndjaaGreatHdv
import Derived.Test.YtggfdlanobndjaaGreatQ6
namespace Go.Proofs.YtggfdlanobndjaaGreat
open Go.RowKit Go.Maps
attribute [local irreducible] wpQuiet
attribute [local go_sem] Oper.still1
set_option linter.unusedSimpArgs false
set_option linter.unusedVariables false

theorem ent_ldrop : ∀ args w, (callFunc 33 args).run Tryz.prog w = .ok (.enter 33 args) w := enters_of Tryz.func33 (by kernel_rfl) rfl
theorem ent_same14 : ∀ args w, (callFunc 38 args).run Tryz.prog w = .ok (.enter 38 args) w := enters_of Tryz.func38 (by kernel_rfl) rfl
/-- the lowest one dropped, the others stay as they were -/
theorem lws_drop {l : List Pt} (hu : (ids l).Nodup) {x1 x2 : Int} {p : Pt} {T : List Pt} (h : lws l x1 x2 = p :: T) : lws (l.filter fun q => decide (q ≠ p)) x1 x2 = T ∧ p ∈ l ∧ (l.filter fun q => decide (q ≠ p)).length + 1 = l.length ∧ p ∉ (l.filter fun q => decide (q ≠ p)) ∧ (ids (l.filter fun q => decide (q ≠ p))).Nodup := by
  have hs := lws_srt hu x1 x2
  rw [h] at hs
  obtain ⟨h1, h2⟩ := List.pairwise_cons.1 hs
  have hu' : (ids (l.filter fun q => decide (q ≠ p))).Nodup := hu.sublist (List.filter_sublist.map _)
  have hpl : p ∈ l := (lws_mem.1 (by rw [h]; simp : p ∈ lws l x1 x2)).1
  have hpT : p ∉ T := fun hp => ltY_irr _ (h1 p hp)
  have hnd : l.Nodup := (List.pairwise_map.1 hu).imp fun hne e => hne (by rw [e])
  refine ⟨(srtY_eq (lws_nod hu' x1 x2) h2 fun y => ?_).symm, hpl, ?_, by simp, hu'⟩
  · rw [List.mem_filter, List.mem_filter, decide_eq_true_eq]
    have hy : y ∈ p :: T ↔ y ∈ l ∧ inX x1 x2 y = true := by rw [← h, lws_mem]
    rw [List.mem_cons] at hy
    constructor
    · intro hm
      have := hy.1 (.inr hm)
      exact ⟨⟨this.1, fun e => hpT (e ▸ hm)⟩, this.2⟩
    · rintro ⟨⟨q1, q2⟩, q3⟩
      exact (hy.2 ⟨q1, q3⟩).resolve_left q2
  · have h3 := (List.perm_cons_erase hpl).length_eq
    rw [hnd.erase_eq_filter] at h3
    have e : (l.filter fun q => decide (q ≠ p)) = l.filter (fun x => x != p) := by congr 1; funext q; by_cases h : q = p <;> simp [h]
    rw [e, h3]
    simp

set_option maxRecDepth 100000 in
set_option maxHeartbeats 8000000 in
theorem wLowDrops (a : Option Addr) (l : List Pt) (n c : Nat) (x1 x2 : Int) (w : World) (hn : l.length = n) (h : RdK ePt 3 w a l) (hf : ∀ p ∈ l, (Lit.int .i64 p.1).wf = true ∧ (Lit.int .i64 p.2.1).wf = true ∧ (Lit.int .u32 p.2.2).wf = true) :
    Calls Tryz.prog 13 #[.slice a n c, .int .i64 x1, .int .i64 x2] w fun e w' => e = .returned (.bool true) ∧ Below w.heap.size w w' := by
  subst hn
  have hw : wfN l := fun p hp => (hf p hp).2.2
  have AW := Lib.hid (fun W => awake14 W)
  by_cases hlen : l.length ≤ 60
  · have dl : decide (60 < (l.length : Int)) = false := by simp; omega
    clear hf
    rcases Bool.eq_false_or_eq_true (unl l) with hu | hu
    · have cd := Lib.hid (lBuild a c l w h (by omega) hw hu)
      have HU : Hid (ids l).Nodup := by show (ids l).Nodup; unfold unl at hu; simpa using hu
      have htk : ∀ L : List Pt, L.length ≤ l.length → (lws L x1 x2).take ((l.length : Int) + 1).toNat = lws L x1 x2 := fun L hL => List.take_of_length_le (by have := lws_len L x1 x2; omega)
      have HTK := Lib.hid htk
      clear h hw hu htk
      go_enter Tryz.func13, Tryz.ntmps13
      go_wp2_with fail
      refine cd.out.mono ?_
      rintro e w1 ⟨tb, rfl, T1, hb1⟩
      have HT1 := Lib.hid T1
      have HB1 := Lib.hid hb1
      clear T1 hb1 cd
      go_wp2_with fail
      refine (lLows HT1.out x1 x2 ((l.length : Int) + 1)).mono ?_
      rintro e w2 ⟨⟨v2, c2, A, hA, rfl, hown2, -, -⟩, hb2⟩
      rw [HTK.out l (Nat.le_refl _)] at hA
      obtain ⟨a2, k2, rfl, -, -, -⟩ := RdK.of_owns ePt_len (by decide) hown2
      have hAl : A.length ≤ l.length := by rw [hA]; exact lws_len l x1 x2
      have hs01 := HB1.out.size
      have HO2 := Lib.hid hown2
      have HT2 := Lib.hid (HT1.out.below hb2 HT1.out.hi_le)
      have HB2 := Lib.hid (HB1.out.trans (hb2.mono HB1.out.size))
      have HA := Lib.hid hA
      have hs12 := hb2.size
      have HCAP : Hid (A.length ≤ k2) := by
        show _ ≤ _
        rcases hown2.2 with ⟨e9, h9⟩ | ⟨g', cap', cur, e9, q2, q3, q4, -⟩
        · omega
        · injection e9 with _ _ e9; omega
      clear hA hown2 hb2 HT1 HB1
      go_wp2
      go_loopw [44] (fun iv wr => ∃ (i : Nat) (L : List Pt), iv = .int .i64 i ∧ i ≤ A.length ∧ L.length + i = l.length ∧ Hid (LowAt wr w.heap.size w1.heap.size tb l.length L) ∧ Hid (lws L x1 x2 = A.drop i) ∧ Hid (ids L).Nodup ∧ Hid (wr.ownsRow w1.heap.size 34 3 (.slice a2 A.length k2) A.length (A.flatMap ePt)) ∧ Hid (Below w.heap.size w wr)) (fun iv _ => A.length - (intOf iv).toNat)
      case atStart => exact ⟨0, l, rfl, Nat.zero_le _, rfl, HT2, HA.out.symm, HU, HO2, HB2⟩
      case round =>
        clear HT2 HO2 HB2
        obtain ⟨i, L, rfl, hi, hLi, HT, HS, HN, HO, HB⟩ := hrel
        by_cases hil : i < A.length
        · have hil2 : (i : Int) < (A.length : Int) := by omega
          have hS := HS.out
          rw [List.drop_eq_getElem_cons hil] at hS
          obtain ⟨m1, m2, m3, m4, m5⟩ := lws_drop HN.out hS
          have hhd : (lws L x1 x2).head? = some A[i] := by rw [hS]; rfl
          have HHD := Lib.hid hhd
          have HLL : Hid (L.length ≤ l.length) := by show _ ≤ _; omega
          have M1 := Lib.hid m1
          have M2 := Lib.hid m2
          have M3 := Lib.hid m3
          have M4 := Lib.hid m4
          have M5 := Lib.hid m5
          clear hS hhd m1 m2 m3 m4 m5
          obtain ⟨ad, off, -, hbl, hcs⟩ := ((RdK.of_owns ePt_len (by decide) HO.out).choose_spec.choose_spec.2.2.2).get (by omega)
          clear hbl hcs
          go_wp2_with fail
          refine (lLowest HT.out x1 x2).mono ?_
          rintro e w4 ⟨⟨p, hp, cp, rfl, -⟩, hb4⟩
          rw [HHD.out] at hp ⊢
          have hp' : p = A[i] := hp
          have HP := Lib.hid hp'
          clear hp hp'
          rw [← HP.out] at M1 M2 M3 M4 M5
          obtain ⟨p1, p2, p3⟩ := p
          obtain ⟨w5, ew5⟩ : ∃ w5, w5 = w4.alloc (.cells #[.int .i64 p1, .int .i64 p2, .int .u32 p3] 34) := ⟨_, rfl⟩
          have hb5 : Below w4.heap.size w4 w5 := by rw [ew5]; exact (Below.refl _ _).alloc (Nat.le_refl _) _
          have hx5 : w5.heap[w4.heap.size]? = some (obP (p1, p2, p3)) := by rw [ew5]; exact lit0 w4 _
          have hb45 := hb4.trans (hb5.mono hb4.size)
          have hhi1 := HT.out.hi_le
          have HT5 := Lib.hid (HT.out.below hb45 HT.out.hi_le)
          have HB5 := Lib.hid (HB.out.trans (hb45.mono HB.out.size))
          have HO5 := Lib.hid (ownsRow_below HO.out hb45)
          have HX5 := Lib.hid hx5
          have hs4 : w1.heap.size ≤ w4.heap.size := by have := hb4.size; omega
          have EW := Lib.hid ew5
          clear hb4 hb5 hx5 hb45 ew5 HT HB HO
          go_upto_region 11 with fail
          rw [← EW.out]
          clear EW
          go_wp2_with fail
          refine (lLows HT5.out x1 x2 ((l.length : Int) + 1)).mono ?_
          rintro e w6 ⟨⟨v6, c6, B, hB, rfl, hown6, -, -⟩, hb6⟩
          rw [HTK.out L HLL.out, HS.out] at hB
          obtain ⟨a6, k6, rfl, -, -, hr6⟩ := RdK.of_owns ePt_len (by decide) hown6
          have HT6 := Lib.hid (HT5.out.below hb6 HT5.out.hi_le)
          have HB6 := Lib.hid (HB5.out.trans (hb6.mono HB5.out.size))
          have ho6 := ownsRow_below HO5.out hb6
          have HO6 := Lib.hid ho6
          have X6 := (hb6.block _ (Array.getElem?_eq_some_iff.1 HX5.out).1).trans HX5.out
          have HX6 := Lib.hid X6
          obtain ⟨y0, y1, y2⟩ := obP_cells X6
          simp only at y0 y1 y2
          obtain ⟨_, _, ea2, -, -, hrA⟩ := RdK.of_owns ePt_len (by decide) ho6
          injection ea2 with ea2 _ ec2
          subst ea2
          obtain ⟨b2, off2, ea, hbl, hcs⟩ := hrA.get (by omega)
          have z0 := hcs i hil 0 (by omega)
          have z1 := hcs i hil 1 (by omega)
          have z2 := hcs i hil 2 (by omega)
          simp only [ePt, List.getElem?_cons_zero, List.getElem?_cons_succ, Nat.add_zero] at z0 z1 z2
          rw [← HP.out] at z0 z1 z2
          have HRA := Lib.hid hrA
          have HR6 := Lib.hid hr6
          have HBB := Lib.hid hB
          have hBl : B.length ≤ l.length := by rw [hB, List.length_drop]; omega
          have hs6 := hb6.size
          have hx5s := (Array.getElem?_eq_some_iff.1 HX5.out).1
          subst ea
          clear hb6 hown6 ho6 X6 hr6 hrA hcs hB HT5 HB5 HO5 HX5 ec2
          have g0 := cell_belowW y0
          have g1 := cell_belowW y1
          have g2 := cell_belowW y2
          have g3 := cell_belowW z0
          have g4 := cell_belowW z1
          have g5 := cell_belowW z2
          have hilN : i < A.length := hil
          go_upto_region 12 with fail
          refine wp_region_head (fun W => ∃ p : BelowW w6, W = p.W) [15, 16, 17, 18, 19, 20, 21, 22, 23, 24, 25, 26, 27, 28] [(0, false), (1, false), (2, false), (3, true), (4, false), (5, false), (6, false), (7, true), (8, false), (9, false), (10, false), (11, false), (12, false), (13, false), (14, false)] (by kernel_rfl) (by kernel_rfl) (fun _ _ d _ _ h => by cases d <;> exact h) ⟨⟨_, (Below.refl _ _).drew⟩, rfl⟩ 14 rfl (by kernel_rfl) ?_
          simp only [pickB, List.filterMap_cons, List.filterMap_nil, List.getElem?_toArray, List.getElem?_cons_succ, List.getElem?_cons_zero, Option.map_some]
          iterate 14 (refine wpHd_step (fun K hK => ?_); go_simp; first | (refine hK _ ?_; clear hK K) | (apply Exists.intro; refine ⟨fun _ => ?_, hK _ ?_⟩; rfl; clear hK K))
          refine wpHd_step (fun K hK => ?_)
          refine step_hdSliceG (enc := ePt) elPt10 (some ⟨b2, off2, none⟩) A k2 i A.length HCAP.out (by omega) (Nat.le_refl _) rfl (.tmp 77) (some (.tmp 78)) none rfl rfl rfl rfl ?_
          intro ad' had'
          refine hK _ ?_
          clear hK K
          refine wpHd_nil ?_
          refine wpAnyT_ready [15] (by kernel_rfl) (by simp) ?_
          refine AllReadyT.cons rfl (fun K hK => ?_) AllReadyT.nil
          have e6 : Below w6.heap.size w6 w6.drew := (Below.refl _ _).drew
          have hrd : RdK ePt 3 w6.drew ad' (A.drop i) := by have := had' _ (HRA.out.below e6); rwa [List.take_length] at this
          have c := same14 a6 ad' B (A.drop i) B.length (A.length - i) k6 (k2 - i) w6.drew rfl (by simp) (HR6.out.below e6) hrd (by omega) (by omega)
          rw [show decide (B = A.drop i) = true by rw [decide_eq_true_eq]; exact HBB.out] at c
          refine step_callG ent_same14 rfl _ _ rfl (vals := #[.slice a6 B.length k6, .slice ad' (A.length - i) (k2 - i)]) rfl c ?_
          rintro e w7 ⟨rfl, hb7⟩
          refine ⟨_, rfl, hK _ _ (fun _ h => absurd (by simp) h) ?_⟩
          clear hK K c g0 g1 g2 g3 g4 g5 z0 z1 z2 y0 y1 y2 hrd had'
          have hb67 : Below w6.heap.size w6 w7 := e6.trans hb7
          have HT7 := Lib.hid (HT6.out.below hb67 HT6.out.hi_le)
          have HB7 := Lib.hid (HB6.out.trans (hb67.mono HB6.out.size))
          have HO7 := Lib.hid (ownsRow_below HO6.out hb67)
          have X7 := (hb67.block _ (Array.getElem?_eq_some_iff.1 HX6.out).1).trans HX6.out
          have HX7 := Lib.hid X7
          obtain ⟨y0, y1, y2⟩ := obP_cells X7
          simp only at y0 y1 y2
          have g0 := cell_belowW y0
          have g1 := cell_belowW y1
          have g2 := cell_belowW y2
          clear e6 hb7 hb67 HT6 HB6 HO6 HX6 X7 HRA HR6 HBB hBl
          refine wpAnyT_turn (fun W => ∃ p : BelowW w7, W = p.W) [21, 22, 23, 24, 25, 26, 27, 28] (by kernel_rfl) ?_
          refine wpAnyT_next [(16, false), (17, false), (18, false), (19, false), (20, true)] (by kernel_rfl) (fun _ _ d _ _ h => by cases d <;> exact h) ⟨⟨_, Below.refl _ _⟩, rfl⟩ (by kernel_rfl) (by kernel_rfl) rfl ?_
          simp only [pickB, List.filterMap_cons, List.filterMap_nil, List.getElem?_toArray, List.getElem?_cons_succ, List.getElem?_cons_zero, Option.map_some]
          repeat (refine wpHd_step (fun K hK => ?_); go_simp; first | (refine hK _ ?_; clear hK K) | (apply Exists.intro; refine ⟨fun _ => ?_, hK _ ?_⟩; rfl; clear hK K))
          refine wpHd_nil ?_
          refine wpAnyT_ready [21] (by kernel_rfl) (by simp) ?_
          refine AllReadyT.cons rfl (fun K hK => ?_) AllReadyT.nil
          have c := lDrop HT7.out (p1, p2, p3)
          rw [show decide ((p1, p2, p3) ∈ L) = true by rw [decide_eq_true_eq]; exact M2.out] at c
          refine step_callG ent_ldrop rfl _ _ rfl (vals := #[.pointer (some ⟨tb, 0, none⟩), vPt p1 p2 p3]) rfl c ?_
          rintro e w8 ⟨rfl, hT8, hk8⟩
          refine ⟨_, rfl, hK _ _ (fun _ h => absurd (by simp) h) ?_⟩
          clear hK K c g0 g1 g2 y0 y1 y2
          have HT8 := Lib.hid hT8
          have HB8 := Lib.hid (HB7.out.trans (hk8.toBelow HB7.out.size (fun k h => h.1)))
          have HO8 := Lib.hid (rowK HO7.out hk8 (fun g e h => by have := (HO7.out.lt g e).1; have := h.2; omega))
          have X8 := blkK hk8 HX7.out (fun h => by have := h.2; omega)
          have HX8 := Lib.hid X8
          obtain ⟨y0, y1, y2⟩ := obP_cells X8
          simp only at y0 y1 y2
          have g0 := cell_belowW y0
          have g1 := cell_belowW y1
          have g2 := cell_belowW y2
          clear hT8 hk8 HT7 HB7 HO7 HX7 X8
          obtain ⟨L', hL'⟩ : ∃ L', L' = L.filter fun q => decide (q ≠ (p1, p2, p3)) := ⟨_, rfl⟩
          rw [← hL'] at HT8 M1 M3 M4 M5
          clear hL'
          refine wpAnyT_turn (fun W => ∃ p : BelowW w8, W = p.W) [27, 28] (by kernel_rfl) ?_
          refine wpAnyT_next [(22, false), (23, false), (24, false), (25, false), (26, true)] (by kernel_rfl) (fun _ _ d _ _ h => by cases d <;> exact h) ⟨⟨_, Below.refl _ _⟩, rfl⟩ (by kernel_rfl) (by kernel_rfl) rfl ?_
          simp only [pickB, List.filterMap_cons, List.filterMap_nil, List.getElem?_toArray, List.getElem?_cons_succ, List.getElem?_cons_zero, Option.map_some]
          repeat (refine wpHd_step (fun K hK => ?_); go_simp; first | (refine hK _ ?_; clear hK K) | (apply Exists.intro; refine ⟨fun _ => ?_, hK _ ?_⟩; rfl; clear hK K))
          refine wpHd_nil ?_
          refine wpAnyT_ready [27] (by kernel_rfl) (by simp) ?_
          refine AllReadyT.cons rfl (fun K hK => ?_) AllReadyT.nil
          have c := lDrop HT8.out (p1, p2, p3)
          rw [show decide ((p1, p2, p3) ∈ L') = false by rw [decide_eq_false_iff_not]; exact M4.out, show (L'.filter fun q => decide (q ≠ (p1, p2, p3))) = L' from List.filter_eq_self.2 fun q hq => by rw [decide_eq_true_eq]; rintro rfl; exact M4.out hq] at c
          refine step_callG ent_ldrop rfl _ _ rfl (vals := #[.pointer (some ⟨tb, 0, none⟩), vPt p1 p2 p3]) rfl c ?_
          rintro e w9 ⟨rfl, hT9, hk9⟩
          refine ⟨_, rfl, hK _ _ (fun _ h => absurd (by simp) h) ?_⟩
          clear hK K c g0 g1 g2 y0 y1 y2
          have HT9 := Lib.hid hT9
          have HB9 := Lib.hid (HB8.out.trans (hk9.toBelow HB8.out.size (fun k h => h.1)))
          have HO9 := Lib.hid (rowK HO8.out hk9 (fun g e h => by have := (HO8.out.lt g e).1; have := h.2; omega))
          have hM3 := M3.out
          clear hT9 hk9 HT8 HB8 HO8 HX8
          refine wpAnyT_line [28] _ _ _ (by kernel_rfl) ?_
          simp only [pick, List.filterMap_cons, List.filterMap_nil, List.getElem?_toArray, List.getElem?_cons_succ, List.getElem?_cons_zero]
          go_wp2
          go_roundw
          case rel => exact ⟨i + 1, L', by go_num, by omega, by omega, HT9, M1, M5, HO9, HB9⟩
          case measure => simp [intOf]; omega
        · obtain rfl : i = A.length := by omega
          have hS := HS.out
          rw [List.drop_length] at hS
          have HS2 := Lib.hid hS
          clear HS hS HO
          go_wp2_with fail
          refine (lLowest HT.out x1 x2).mono ?_
          rintro e w4 ⟨⟨p, hp, cp, rfl, -⟩, hb4⟩
          rw [HS2.out] at hp ⊢
          obtain rfl : p = (0, 0, 0) := hp
          simp only [List.head?_nil, Option.isSome_none]
          have HT4 := Lib.hid (fun o => (HT.out.below hb4 HT.out.hi_le).below ((Below.refl _ w4).alloc (Nat.le_refl _) o) (by have := hb4.size; have := HT.out.hi_le; omega))
          have HB4 := Lib.hid (fun o => (HB.out.trans (hb4.mono HB.out.size)).trans (((Below.refl _ w4).alloc (Nat.le_refl _) o).mono (by have := hb4.size; have := HB.out.size; omega)))
          have dz : ((L.length : Int) == (l.length : Int) - (A.length : Int)) = true := by simp; omega
          have dz2 : decide ((L.length : Int) = (l.length : Int) - (A.length : Int)) = true := by simp; omega
          have hwr : IntKind.i64.wrap ((l.length : Int) - (A.length : Int)) = (l.length : Int) - (A.length : Int) := by rw [IntKind.wrap_i64]; omega
          clear hb4 HT HB
          go_wp2_with (first
            | (go_at_call 36; refine (lLen (HT4.out _)).mono ?_; rintro e w9 ⟨rfl, rfl⟩)
            | (go_at_call 31; refine (AW.out _).mono ?_; rintro e w10 ⟨rfl, hb10⟩))
          go_ret
          exact ⟨rfl, (HB4.out _).trans (hb10.mono (HB4.out _).size)⟩
    · have cb1 := Lib.hid (low_build_bad a c l w h (by omega) hw hu)
      clear h hw hu
      go_enter Tryz.func13, Tryz.ntmps13
      go_wp2_with (first
        | (go_at_call 32; refine cb1.out.mono ?_; rintro e w2 ⟨rfl, hb2⟩)
        | (go_at_call 31; refine (AW.out _).mono ?_; rintro e w4 ⟨rfl, hb4⟩))
      go_ret
      exact ⟨rfl, hb2.trans (hb4.mono hb2.size)⟩
  · have dl : decide (60 < (l.length : Int)) = true := by simp; omega
    clear h hw hf
    go_enter Tryz.func13, Tryz.ntmps13
    go_wp2_with (go_at_call 31; refine (AW.out _).mono ?_; rintro e w3 ⟨rfl, hb3⟩)
    go_ret
    exact ⟨rfl, hb3⟩
end Go.Proofs.YtggfdlanobndjaaGreat
