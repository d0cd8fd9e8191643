/- The law LowHeap, walked. -/
import Derived.Test.YtggfdlanobndjaaGreatL14a
import Derived.Test.YtggfdlanobndjaaGreatL14g
import Derived.Test.YtggfdlanobndjaaGreatHep
import Derived.Test.YtggfdlanobndjaaGreatQ6
import Derived.Test.YtggfdlanobndjaaGreatQ5
namespace Go.Proofs.YtggfdlanobndjaaGreat
open Go.RowKit Go.Maps
attribute [local irreducible] wpQuiet
attribute [local go_sem] Oper.still1
set_option linter.unusedSimpArgs false
set_option linter.unusedVariables false

theorem ent_ldropH : ∀ args w, (callFunc 33 args).run Tryz.prog w = .ok (.enter 33 args) w := enters_of Tryz.func33 (by kernel_rfl) rfl
theorem ent_hdropH : ∀ args w, (callFunc 21 args).run Tryz.prog w = .ok (.enter 21 args) w := enters_of Tryz.func21 (by kernel_rfl) rfl
theorem grown_ofH {w w' : World} (h : Below w.heap.size w w') : w.grownBy w' none := ⟨h.os, h.tape, h.output, h.size, fun k hk _ => h.block k hk⟩
/-- the map of the names T, each once -/
def MpH (W : World) (mb m : Nat) (T : List Int) : Prop :=
  ∃ (D : DataW Unit) (ks : List Int) (F : Int → Option Int), W.ownsMap Tryz.prog 32 (plainElem Tryz.prog 3) mb m D ∧ IsM .u32 .i64 D F ks ∧ ks = T ∧ ∀ n ∈ T, F n = some 1

set_option maxRecDepth 100000 in
set_option maxHeartbeats 8000000 in
theorem wLowHeap (a : Option Addr) (l : List Pt) (n c : Nat) (x1 x2 y : Int) (b : Option Addr) (D : List Int) (m c' : Nat) (w : World) (hn : l.length = n) (h : RdK ePt 3 w a l) (hf : ∀ p ∈ l, (Lit.int .i64 p.1).wf = true ∧ (Lit.int .i64 p.2.1).wf = true ∧ (Lit.int .u32 p.2.2).wf = true)
    (hm : D.length = m) (h' : Rd (.int .u8) w b D) (hc' : m ≤ c' ∧ c' ≤ maxLen) (hD : ∀ x ∈ D, (Lit.int .u8 x).wf = true) :
    Calls Tryz.prog 9 #[.slice a n c, .int .i64 x1, .int .i64 x2, .int .i64 y, .slice b m c'] w fun e w' => e = .returned (.bool true) ∧ Below w.heap.size w w' := by
  subst hn hm
  have hw : wfN l := fun p hp => (hf p hp).2.2
  have AW := Lib.hid (fun W => awake14 W)
  by_cases hlen : l.length ≤ 80
  · have dl : decide (80 < (l.length : Int)) = false := by simp; omega
    rcases Bool.eq_false_or_eq_true (unl l) with hu | hu
    · have cd := Lib.hid (lBuild a c l w h (by omega) hw hu)
      have HBB := Lib.hid (fun W (r : RdK ePt 3 W a l) => hBuild a c l W r (by omega) hw hu)
      have HR := Lib.hid h
      have HR' := Lib.hid h'
      have HD := Lib.hid hD
      have hcd1 := hc'.1
      have HU0 : Hid (ids l).Nodup := by show (ids l).Nodup; unfold unl at hu; simpa using hu
      have HWN := Lib.hid hw
      clear hD hw hf h h' hu hc'
      obtain ⟨m, hm, hm1, hmm⟩ : ∃ m : Nat, min (D.length : Int) 100 = (m : Int) ∧ m ≤ D.length ∧ m ≤ 100 := ⟨min D.length 100, by omega, by omega, by omega⟩
      have HM := Lib.hid hm
      clear hm
      go_enter Tryz.func9, Tryz.ntmps9
      go_wp2_with fail
      refine cd.out.mono ?_
      rintro e w1 ⟨tb, rfl, T1, hb1⟩
      have HT1 := Lib.hid T1
      have HB1 := Lib.hid hb1
      clear T1 hb1 cd
      go_wp2_with fail
      refine (HBB.out _ (HR.out.below HB1.out)).mono ?_
      rintro e w2 ⟨ub, rfl, U2, hb2⟩
      have HT2 := Lib.hid (HT1.out.below hb2 HT1.out.hi_le)
      have HU2 := Lib.hid U2
      have hs12 := hb2.size
      have hs01 := HB1.out.size
      have HB2 := Lib.hid (HB1.out.trans (hb2.mono HB1.out.size))
      clear U2 hb2 HT1 HB1 HBB
      have hm : min (D.length : Int) 100 = (m : Int) := HM.out
      go_wp2
      (try rw [hm, show (m : Int).toNat = m by omega, show max (m : Int) 0 = (m : Int) by omega])
      clear hm
      go_loopw [55] (fun iv wr => ∃ (i : Nat) (L : List Pt), iv = .int .i64 i ∧ i ≤ m ∧ Hid (LowAt wr w.heap.size w1.heap.size tb l.length L) ∧ Hid (HepAt wr w1.heap.size w2.heap.size ub l.length L) ∧ Hid (∀ p ∈ L, p ∈ l) ∧ Hid (ids L).Nodup ∧ Hid (Below w.heap.size w wr)) (fun iv _ => m - (intOf iv).toNat)
      case atStart => exact ⟨0, l, rfl, Nat.zero_le _, HT2, HU2, Lib.hid (fun p h => h), HU0, HB2⟩
      case round =>
        obtain ⟨i, L, rfl, hi', HT, HU, HS, HN, HBR⟩ := hrel
        by_cases him : i < m
        · obtain ⟨b', off', ea, hbl, hcs⟩ := (HR'.out.below HBR.out).get (by omega)
          have x0 := hcs i (by omega)
          have wf0 := HD.out D[i] (List.getElem_mem _)
          have EA := Lib.hid ea
          clear hcs ea
          generalize D[i] = d at *
          obtain rfl := EA.out
          clear EA
          have hd0 : 0 ≤ d ∧ d ≤ 255 := by
            simp [Lit.wf, IntKind.min, IntKind.max, IntKind.signed, IntKind.bits] at wf0
            omega
          obtain ⟨e, rfl⟩ : ∃ e : Nat, d = e := ⟨d.toNat, by omega⟩
          have him2 : (i : Int) < (m : Int) := by omega
          by_cases h0 : 0 < l.length
          · have hl0 : (0 : Int) < (l.length : Int) := by omega
            obtain ⟨j, hj, hmod⟩ : ∃ j : Nat, j < l.length ∧ Int.tmod (e : Int) (l.length : Int) = (j : Int) := ⟨e % l.length, Nat.mod_lt _ h0, by
              rw [Int.tmod_eq_emod_of_nonneg (by omega)]
              omega⟩
            obtain ⟨b2, off2, ea2, hbl2, hcs2⟩ := HR.out.get h0
            have z0 := hcs2 (j) hj 0 (by omega)
            have z1 := hcs2 (j) hj 1 (by omega)
            have z2 := hcs2 (j) hj 2 (by omega)
            simp only [ePt, List.getElem?_cons_zero, List.getElem?_cons_succ, Nat.add_zero] at z0 z1 z2
            have EA := Lib.hid ea2
            clear hcs2 ea2
            have DP := Lib.hid (lDrop (HT.out.below (Below.refl _ _).drew HT.out.hi_le) l[j])
            have DU := Lib.hid (fun W (hU : HepAt W w1.heap.size w2.heap.size ub l.length L) => hDrop hU l[j])
            generalize l[j] = p at *
            obtain ⟨px, py, pi⟩ := p
            simp only at z0 z1 z2
            obtain rfl := EA.out
            clear EA
            go_upto_region 12 with fail
            clear x0
            have k0 := cell_belowW z0
            have k1 := cell_belowW z1
            have k2 := cell_belowW z2
            refine wp_region_head (fun W => ∃ p : BelowW w, W = p.W) [23, 24, 25] [(0, false), (1, false), (2, false), (3, false), (4, false), (5, false), (6, false), (7, false), (8, false), (9, false), (10, false), (11, false), (12, true), (14, false), (15, false), (16, false), (17, false), (18, false), (19, false), (20, false), (21, false), (22, true)] (by kernel_rfl) (by kernel_rfl) (fun _ _ d _ _ h => by cases d <;> exact h) ⟨⟨_, HBR.out.drew⟩, rfl⟩ 4 rfl (by kernel_rfl) ?_
            simp only [pickB, List.filterMap_cons, List.filterMap_nil, List.getElem?_toArray, List.getElem?_cons_succ, List.getElem?_cons_zero, Option.map_some]
            have hne : ¬ l = [] := by rintro rfl; simp at h0
            have hwe : IntKind.i64.wrap (e : Int) = (e : Int) := by rw [IntKind.wrap_i64]; omega
            repeat (refine wpHd_step (fun K hK => ?_); go_simp; first | (refine hK _ ?_; clear hK K) | (refine ⟨.int .i64 (j : Int), fun W => by rw [if_neg hne, hwe, hmod], hK _ ?_⟩; clear hK K) | (apply Exists.intro; refine ⟨fun _ => ?_, hK _ ?_⟩; rfl; clear hK K))
            refine wpHd_nil ?_
            refine wpAnyT_ready [13] (by kernel_rfl) (by simp) ?_
            refine AllReadyT.cons rfl (fun K hK => ?_) AllReadyT.nil
            refine step_callG ent_ldropH (by first | rfl | (go_simp; done)) _ _ rfl (vals := #[.pointer (some ⟨tb, 0, none⟩), vPt px py pi]) rfl DP.out ?_
            rintro e' w4 ⟨rfl, hT4, hk4⟩
            have B4 := HBR.out.drew.trans (hk4.toBelow HBR.out.drew.size (fun k h => h.1))
            have hU4 := (HU.out.below (Below.refl _ _).drew HU.out.hi_le).kept hk4 (fun k h1 h2 h3 => by have := h3.2; omega)
            refine ⟨_, rfl, hK _ _ (fun _ _ => ⟨⟨_, B4⟩, rfl⟩) ?_⟩
            clear hK K
            refine wpAnyT_ready [23] (by kernel_rfl) (by simp) ?_
            refine AllReadyT.cons rfl (fun K hK => ?_) AllReadyT.nil
            refine step_callG ent_hdropH (by first | rfl | (go_simp; done)) _ _ rfl (vals := #[.pointer (some ⟨ub, 0, none⟩), vPt px py pi]) rfl (DU.out w4 hU4) ?_
            rintro e' w5 ⟨rfl, hU5, hk5⟩
            refine ⟨_, rfl, hK _ _ (fun _ h => absurd (by simp) h) ?_⟩
            clear hK K
            refine wpAnyT_line [24, 25] _ _ _ (by kernel_rfl) ?_
            simp only [pick, List.filterMap_cons, List.filterMap_nil, List.getElem?_toArray, List.getElem?_cons_succ, List.getElem?_cons_zero]
            have HT5 := Lib.hid (hT4.kept hk5 (fun k h1 h2 h3 => by have := h3.1; omega))
            have HU5 := Lib.hid hU5
            have HB5 := Lib.hid (B4.trans (hk5.toBelow B4.size (fun k h => by have := h.1; omega)))
            have HS5 : Hid (∀ p ∈ L.filter (fun q => decide (q ≠ (px, py, pi))), p ∈ l) := fun p h => HS.out p (List.mem_filter.1 h).1
            have HN5 : Hid (ids (L.filter (fun q => decide (q ≠ (px, py, pi))))).Nodup := HN.out.sublist (List.filter_sublist.map _)
            clear hT4 hk4 B4 hU4 hU5 hk5 DP DU HT HU HS HBR k0 k1 k2
            go_wp2
            exact ⟨⟨i + 1, _, by go_num, by omega, HT5, HU5, HS5, HN5, HB5⟩, by simp [intOf]; omega⟩
          · have hl0 : l.length = 0 := by omega
            go_wp2
            go_region
            all_goals
              go_wp2
              go_roundw
              case rel => exact ⟨i + 1, L, by go_num, by omega, Lib.hid (HT.out.below (Below.refl _ _).drew HT.out.hi_le), Lib.hid (HU.out.below (Below.refl _ _).drew HU.out.hi_le), HS, HN, Lib.hid HBR.out.drew⟩
              case measure => simp [intOf]; omega
        · obtain rfl : i = m := by omega
          have few := HT.out.few2
          have HUU := HN.out
          have HLWS := Lib.hid (fun n => hpl_names HUU x1 x2 y n)
          have HAT := Lib.hid (fun i (h : i < (lws L x1 x2).length) => hpl_at HUU x1 x2 y h)
          have HNI := Lib.hid (lws_ids HUU x1 x2)
          have HNW : Hid (∀ p ∈ lws L x1 x2, (Lit.int .u32 p.2.2).wf = true) := fun p hp => HWN.out p (HS.out p (lws_mem.1 hp).1)
          have hgS := hpl_len HUU x1 x2 y
          have hSl : (lws L x1 x2).length ≤ 20000 := Nat.le_trans (lws_len L x1 x2) (by omega)
          obtain ⟨S, hS⟩ : ∃ S, S = lws L x1 x2 := ⟨_, rfl⟩
          obtain ⟨N, hNN⟩ : ∃ N, N = has3 L x1 x2 y := ⟨_, rfl⟩
          rw [← hS] at hgS hSl HAT HNI HNW HLWS
          rw [← hNN] at hgS HAT HLWS
          have HSS := Lib.hid hS
          have HNNN := Lib.hid hNN
          clear HUU hS hNN HS HN
          go_wp2_with fail
          refine (hThree HU.out x1 x2 y).mono ?_
          rintro e w3 ⟨v3, c3, rfl, -, hown3, hb3⟩
          rw [← HNNN.out] at hown3
          obtain ⟨a3, k3, rfl, -, -, hr3⟩ := Rd.of_owns hown3
          have HR3 := Lib.hid hr3
          have HT3 := Lib.hid (HT.out.below hb3 HT.out.hi_le)
          have HB3 := Lib.hid (HBR.out.trans (hb3.mono HBR.out.size))
          clear hown3 hb3 hr3 HT HU HBR
          go_wp2_with fail
          refine (lLowest HT3.out x1 x2).mono ?_
          rintro e w4 ⟨⟨p, hp, cp, rfl, -⟩, hb4⟩
          rw [← HSS.out] at hp ⊢
          have HP := Lib.hid hp
          obtain ⟨fp, hfp⟩ : ∃ fp, fp = S.head?.isSome := ⟨_, rfl⟩
          rw [← hfp]
          have HFP := Lib.hid hfp
          obtain ⟨p1, p2, p3⟩ := p
          obtain ⟨w5, ew5⟩ : ∃ w5, w5 = w4.alloc (.cells #[.int .i64 p1, .int .i64 p2, .int .u32 p3] 34) := ⟨_, rfl⟩
          have hb5 : Below w4.heap.size w4 w5 := by rw [ew5]; exact (Below.refl _ _).alloc (Nat.le_refl _) _
          have hx5 : w5.heap[w4.heap.size]? = some (obP (p1, p2, p3)) := by rw [ew5]; exact lit0 w4 _
          have hb45 := hb4.trans (hb5.mono hb4.size)
          have HT5 := Lib.hid (HT3.out.below hb45 HT3.out.hi_le)
          have HB5 := Lib.hid (HB3.out.trans (hb45.mono HB3.out.size))
          have HR5 := Lib.hid (HR3.out.below hb45)
          obtain ⟨y0, y1, y2⟩ := obP_cells hx5
          simp only at y0 y1 y2
          have EW := Lib.hid ew5
          have HNE : Hid ((decide ((0 : Int) < (N.length : Int)) = true ∧ fp = true ∧ decide (p2 ≤ y) = true) ∨ (decide ((0 : Int) < (N.length : Int)) = false ∧ fp = true ∧ decide (p2 ≤ y) = false) ∨ (decide ((0 : Int) < (N.length : Int)) = false ∧ fp = false)) := by
            cases eS : S with
            | nil =>
              rw [eS] at hgS
              have hg0 : N.length ≤ 0 := hgS
              refine .inr (.inr ⟨by rw [decide_eq_false_iff_not]; omega, by rw [hfp, eS]; rfl⟩)
            | cons q T =>
              have h0 := HAT.out 0 (by rw [eS]; simp)
              have hq : (p1, p2, p3) = q := by rw [hp, eS]; rfl
              have e0 : S[0]'(by rw [eS]; simp) = q := by simp [eS]
              rw [e0, ← hq] at h0
              simp only at h0
              by_cases h1 : p2 ≤ y
              · exact .inl ⟨by rw [decide_eq_true_eq]; have := h0.2 h1; omega, by rw [hfp, eS]; rfl, by simp [h1]⟩
              · exact .inr (.inl ⟨by rw [decide_eq_false_iff_not]; have := fun h => h1 (h0.1 h); omega, by rw [hfp, eS]; rfl, by simp [h1]⟩)
          clear hb4 hb5 hx5 hb45 ew5 HT3 HB3 HR3 hp hfp HP HFP
          go_upto_region 17 with fail
          rw [← EW.out]
          clear EW
          go_cut [112] from 102 to 112 (fun v wx => v = .bool false ∧ Hid (wx = w5))
          case first =>
            rcases HNE.out with ⟨d1, rfl, d2⟩ | ⟨d1, rfl, d2⟩ | ⟨d1, rfl⟩ <;> have d3 := d1 <;> rw [show decide ((0 : Int) < (N.length : Int)) = decide (0 < N.length) by simp] at d3
            · go_wp2
              go_meet
              exact ⟨rfl, rfl⟩
            · go_wp2
              go_meet
              exact ⟨rfl, rfl⟩
            · go_wp2
              go_meet
              exact ⟨rfl, rfl⟩
          case rest =>
            obtain ⟨rfl, HWX⟩ := hcut
            have hwx := HWX.out
            subst hwx
            clear HWX HNE
            go_wp2_with fail
            refine (lLows HT5.out x1 x2 ((N.length : Int) + 1)).mono ?_
            rintro e w6 ⟨⟨v6, c6, F, hF, rfl, hown6, -, -⟩, hb6⟩
            rw [← HSS.out, show ((N.length : Int) + 1).toNat = N.length + 1 by omega] at hF
            obtain ⟨a6, k6, rfl, -, -, hr6⟩ := RdK.of_owns ePt_len (by decide) hown6
            have HF := Lib.hid hF
            have HFL : Hid (F.length = min (N.length + 1) S.length) := by show _ = _; rw [hF, List.length_take]
            have hFl0 : F.length ≤ 20000 := by rw [hF, List.length_take]; omega
            have HR6 := Lib.hid hr6
            have HN6 := Lib.hid (HR5.out.below hb6)
            have HB6 := Lib.hid (HB5.out.trans (hb6.mono HB5.out.size))
            clear hown6 hb6 hr6 hF HT5 HB5 HR5 y0 y1 y2
            have hmm := @run_makeMap Tryz.prog
            go_upto_region 21 with fail
            clear hmm
            obtain ⟨w7, ew7⟩ : ∃ w7, w7 = w6.alloc (Obj.map #[] 0) := ⟨_, rfl⟩
            have b7 : Below w6.heap.size w6 w7 := by rw [ew7]; exact (Below.refl _ _).alloc (Nat.le_refl _) _
            have hm7 : w7.ownsMap Tryz.prog 32 (plainElem Tryz.prog 3) w6.heap.size 0 (.map [] : DataW Unit) := by rw [ew7]; exact World.ownsMap_made _ _ _ _
            have hs7 : w6.heap.size < w7.heap.size := by rw [ew7]; simp
            rw [← ew7]
            obtain ⟨mb, hmb⟩ : ∃ mb, mb = w6.heap.size := ⟨_, rfl⟩
            rw [← hmb] at hm7 hs7 ⊢
            have HMB := Lib.hid hmb
            have HM7 : Hid (MpH w7 mb 0 (ids (S.take (min 0 N.length)))) := ⟨_, _, _, hm7, IsM.empty _ _, by simp [ids], fun n h => absurd h (by simp [ids])⟩
            have HB7 := Lib.hid b7
            clear ew7 b7 hm7 hmb
            go_wp2
            go_loopw [126] (fun iv wr => ∃ (i m : Nat), iv = .int .i64 i ∧ i ≤ F.length ∧ m ≤ i ∧ Hid (MpH wr mb m (ids (S.take (min i N.length)))) ∧ Hid (Below w6.heap.size w6 wr) ∧ mb < wr.heap.size) (fun iv _ => F.length - (intOf iv).toNat)
            case atStart => exact ⟨0, 0, rfl, Nat.zero_le _, Nat.le_refl _, HM7, HB7, hs7⟩
            case round =>
              clear HM7 HB7 hs7
              obtain ⟨i, m, rfl, hi, hmi, HM, HBK, hsr⟩ := hrel
              by_cases hil : i < F.length
              · have hfl := HFL.out
                have hiS : i < S.length := by omega
                have hFi : F[i] = S[i] := by simp only [HF.out, List.getElem_take]
                obtain ⟨b9, off9, ea, hbl, hcs⟩ := (HR6.out.below HBK.out).get (by omega)
                have x0 := hcs i hil 0 (by omega)
                have x1' := hcs i hil 1 (by omega)
                have x2' := hcs i hil 2 (by omega)
                rw [hFi] at x0 x1' x2'
                simp only [ePt, List.getElem?_cons_zero, List.getElem?_cons_succ, Nat.add_zero] at x0 x1' x2'
                have hat := HAT.out i hiS
                have hkey : Hid (keyOf Tryz.prog 32 (.int .u32 S[i].2.2) = some (.int .u32 S[i].2.2)) := Lib.hid (keyOf_int_mk Tryz.underlying32 (HNW.out _ (List.getElem_mem hiS)))
                have HNEW : Hid (i < N.length → S[i].2.2 ∉ ids (S.take (min i N.length)) ∧ ids (S.take (min (i + 1) N.length)) = ids (S.take (min i N.length)) ++ [S[i].2.2]) := fun hg => by
                  rw [Nat.min_eq_left (by omega), Nat.min_eq_left (by omega)]
                  have e9 : ids (S.take (i + 1)) = ids (S.take i) ++ [S[i].2.2] := by unfold ids; rw [List.take_succ_eq_append_getElem hiS, List.map_append]; rfl
                  refine ⟨fun hm => ?_, e9⟩
                  have hnd : (ids (S.take (i + 1))).Nodup := HNI.out.sublist ((List.take_sublist _ _).map _)
                  rw [e9, List.nodup_append] at hnd
                  exact hnd.2.2 _ hm _ (by simp) rfl
                have HOLD : Hid (¬ i < N.length → ids (S.take (min (i + 1) N.length)) = ids (S.take (min i N.length))) := fun hg => by rw [Nat.min_eq_right (by omega), Nat.min_eq_right (by omega)]
                have EA := Lib.hid ea
                clear hcs ea hfl hFi
                generalize S[i] = p at *
                obtain ⟨p1', p2', p3'⟩ := p
                simp only at x0 x1' x2' hat hkey HNEW
                have hil2 : (i : Int) < (F.length : Int) := by omega
                obtain rfl := EA.out
                clear EA
                obtain ⟨w8, ew8⟩ : ∃ w8, w8 = wr.alloc (.cells #[.int .i64 p1', .int .i64 p2', .int .u32 p3'] 34) := ⟨_, rfl⟩
                have b8 : Below wr.heap.size wr w8 := by rw [ew8]; exact (Below.refl _ _).alloc (Nat.le_refl _) _
                have X8 : w8.heap[wr.heap.size]? = some (obP (p1', p2', p3')) := by rw [ew8]; exact lit0 _ _
                have hs8 : mb < w8.heap.size := Nat.lt_of_lt_of_le hsr b8.size
                have HB8 := Lib.hid (HBK.out.trans (b8.mono HBK.out.size))
                obtain ⟨y0, y1, y2⟩ := obP_cells X8
                simp only at y0 y1 y2
                have EW := Lib.hid ew8
                have HY := Lib.hid (And.intro y0 (And.intro y1 y2))
                obtain ⟨DD, ks, G, hown0, hD, hks, hG⟩ := HM.out
                have HOW := Lib.hid (hown0.kept (grown_ofH b8) (by simp))
                have HDD := Lib.hid hD
                have HKS := Lib.hid hks
                have HGG := Lib.hid hG
                clear ew8 b8 X8 y0 y1 y2 hown0 hD hks hG HM
                go_upto_region 24 with fail
                rw [← EW.out]
                clear EW x0 x1' x2'
                obtain ⟨y0, y1, y2⟩ := HY.out
                by_cases hg : i < N.length
                · have d1 : decide ((i : Int) < (N.length : Int)) = true := by rw [decide_eq_true_eq]; omega
                  have d2 : decide (p2' ≤ y) = true := by rw [decide_eq_true_eq]; exact hat.1 hg
                  have d3 : decide (i < N.length) = true := by rw [decide_eq_true_eq]; exact hg
                  obtain ⟨hnew, hT⟩ := HNEW.out hg
                  have hGn : G p3' = none := by
                    have h1 := HDD.out.2.2.2.1 p3'
                    rw [HKS.out] at h1
                    cases e : G p3' with
                    | none => rfl
                    | some v => exact absurd (h1.2 (by rw [e]; rfl)) hnew
                  have hat0 := (HDD.out.2.2.2.2 p3').2 (.lit (.int .i64 0))
                  rw [hGn] at hat0
                  have HA0 : Hid (∀ cc : Int, DD.atKey (.int .u32 p3') (.lit (.int .i64 0)) = .lit (.int .i64 cc) → cc = 0) := fun cc hcc => by rw [hat0] at hcc; simpa using hcc.symm
                  have hD2 := HDD.out.put p3' 1
                  rw [if_neg (by rw [HKS.out]; exact hnew)] at hD2
                  have HD2 := Lib.hid hD2
                  have HG2 : Hid (∀ n ∈ ids (S.take (min (i + 1) N.length)), putF G p3' 1 n = some 1) := fun n hn => by
                    rw [hT] at hn
                    unfold putF
                    by_cases e : n = p3'
                    · rw [if_pos e]
                    · rw [if_neg e]
                      rcases List.mem_append.1 hn with h | h
                      · exact HGG.out n h
                      · exact absurd (List.mem_singleton.1 h) e
                  have HK2 : Hid (ks ++ [p3'] = ids (S.take (min (i + 1) N.length))) := by show _ = _; rw [hT, HKS.out]
                  have hown := HOW.out
                  clear hat0 hGn hnew hT hD2 hg hat HNEW HOLD HY
                  go_wp2_with (first | (at_lookup; refine wpList_lookup_own_int _ rfl _ _ 69 rfl 32 3 .i64 (int_keyed Tryz.underlying32) Tryz.underlying69 Tryz.underlying3 (Tryz.zeroValue3 _) mb _ _ rfl hown _ _ rfl hkey.out ?_; intro cc hat _; obtain rfl := HA0.out cc hat; clear hat) | (at_mapUpdate; refine wpList_mapUpdate_own _ rfl _ _ _ 69 rfl 32 3 (int_keyed Tryz.underlying32) Tryz.underlying69 _ mb m _ rfl hown (by unfold maxLen; omega) _ _ _ rfl rfl hkey.out _ [] (plainElem_int Tryz.underlying3 (by decide)) ?_; intro w9 hown9 hgrow9))
                  have HM9 : Hid (MpH w9 mb (m + 1) (ids (S.take (min (i + 1) N.length)))) := ⟨_, _, _, hown9, HD2.out, HK2.out, HG2.out⟩
                  have HB9 := Lib.hid (HB8.out.trans (grown_below hgrow9 HB8.out.size (by have := HMB.out; omega)))
                  have hs9 : mb < w9.heap.size := Nat.lt_of_lt_of_le hs8 hgrow9.size
                  clear hown9 hgrow9 hown y0 y1 y2
                  go_roundw
                  case rel =>
                    first | exact ⟨i + 1, m + 1, by go_num, by omega, by omega, HM9, HB9, hs9⟩ | (refine ⟨_, ?_, rfl⟩; exact ⟨i + 1, m + 1, by go_num, by omega, by omega, HM9, HB9, hs9⟩) | (refine ⟨_, _, _, ?_, rfl, rfl, rfl⟩; exact ⟨i + 1, m + 1, by go_num, by omega, by omega, HM9, HB9, hs9⟩)
                  case measure => simp [intOf]; omega
                · have d1 : decide ((i : Int) < (N.length : Int)) = false := by rw [decide_eq_false_iff_not]; omega
                  have d2 : decide (p2' ≤ y) = false := by rw [decide_eq_false_iff_not]; exact fun h => hg (hat.2 h)
                  have d3 : decide (i < N.length) = false := by rw [decide_eq_false_iff_not]; exact hg
                  have hT := HOLD.out hg
                  have HM9 : Hid (MpH w8 mb m (ids (S.take (min (i + 1) N.length)))) := by
                    show MpH _ _ _ _
                    rw [hT]
                    exact ⟨_, _, _, HOW.out, HDD.out, HKS.out, HGG.out⟩
                  clear hT hg hat HNEW HOLD HY
                  go_wp2
                  go_roundw
                  case rel => exact ⟨i + 1, m, by go_num, by omega, by omega, HM9, HB8, hs8⟩
                  case measure => simp [intOf]; omega
              · obtain rfl : i = F.length := by omega
                have hfg : min F.length N.length = N.length := by have := HFL.out; omega
                rw [hfg] at HM
                obtain ⟨DD, ks, G, hown0, hD, hks, hG⟩ := HM.out
                have HOW := Lib.hid hown0
                have HDD := Lib.hid hD
                have HKS := Lib.hid hks
                have HGG := Lib.hid hG
                have hTl : (ids (S.take N.length)).length = N.length := by unfold ids; rw [List.length_map, List.length_take]; omega
                have HTL : Hid (Maps.size DD = N.length) := by show _ = _; rw [hD.2.1, hks, hTl]
                have HB8 := Lib.hid (HB6.out.trans (HBK.out.mono HB6.out.size))
                have HN8 := Lib.hid (HN6.out.below HBK.out)
                obtain ⟨wo, ewo⟩ : ∃ wo : World, wo = wr := ⟨_, rfl⟩
                subst ewo
                clear hown0 hD hks hG HM hfg hTl HBK
                go_wp2
                go_loopw [152] (fun iv wr => ∃ (j : Nat), iv = .int .i64 j ∧ j ≤ N.length ∧ wr = wo) (fun iv _ => N.length - (intOf iv).toNat)
                case atStart => exact ⟨0, rfl, Nat.zero_le _, rfl⟩
                case round =>
                  obtain ⟨j, rfl, hj, rfl⟩ := hrel
                  by_cases hjl : j < N.length
                  · have hjl2 : (j : Int) < (N.length : Int) := by omega
                    obtain ⟨b9, off9, ea, hbl, hcs⟩ := HN8.out.get (by omega)
                    have x0 := hcs j hjl
                    have hmem := (HLWS.out N[j]).1 (List.getElem_mem hjl)
                    have hGn := HGG.out _ hmem
                    have hwf : (Lit.int .u32 N[j]).wf = true := by
                      unfold ids at hmem
                      obtain ⟨q, hq, e⟩ := List.mem_map.1 hmem
                      rw [← e]
                      exact HNW.out q (List.mem_of_mem_take hq)
                    have hkey : Hid (keyOf Tryz.prog 32 (.int .u32 N[j]) = some (.int .u32 N[j])) := Lib.hid (keyOf_int_mk Tryz.underlying32 hwf)
                    have hat0 := (HDD.out.2.2.2.2 N[j]).2 (.lit (.int .i64 0))
                    rw [hGn] at hat0
                    have EA := Lib.hid ea
                    clear hcs ea hmem hwf hGn
                    generalize N[j] = q at *
                    have HA0 : Hid (∀ cc : Int, DD.atKey (.int .u32 q) (.lit (.int .i64 0)) = .lit (.int .i64 cc) → cc = 1) := fun cc hcc => by rw [hat0] at hcc; simpa using hcc.symm
                    have hown := HOW.out
                    clear hat0
                    obtain rfl := EA.out
                    clear EA
                    go_wp2_with (at_lookup; refine wpList_lookup_own_int _ rfl _ _ 69 rfl 32 3 .i64 (int_keyed Tryz.underlying32) Tryz.underlying69 Tryz.underlying3 (Tryz.zeroValue3 _) mb _ _ rfl hown _ _ rfl hkey.out ?_; intro cc hat _; obtain rfl := HA0.out cc hat; clear hat)
                    go_roundw
                    case rel => exact ⟨j + 1, by go_num, by omega, by first | trivial | rfl⟩
                    case measure => simp [intOf]; omega
                  · obtain rfl : j = N.length := by omega
                    have hlen9 : (Builtin.len_ #[69] 3 #[.map (some mb)]).run Tryz.prog wr = .ok (.int .i64 (N.length : Nat)) wr := by rw [HOW.out.len Tryz.underlying69 3, HTL.out]
                    go_wp2_with (go_at_call 31; refine (AW.out _).mono ?_; rintro e w9 ⟨rfl, hb9⟩)
                    go_ret
                    exact ⟨rfl, HB8.out.trans (hb9.mono HB8.out.size)⟩
    · have cb1 := Lib.hid (low_build_bad a c l w h (by omega) hw hu)
      have cb2 := Lib.hid (fun W (r : RdK ePt 3 W a l) => heap_build_bad a c l W r (by omega) hw hu)
      have HR := Lib.hid h
      clear h hw hu
      go_enter Tryz.func9, Tryz.ntmps9
      go_wp2_with (first
        | (go_at_call 32; refine cb1.out.mono ?_; rintro e w2 ⟨rfl, hb2⟩)
        | (go_at_call 16; refine (cb2.out _ (HR.out.below hb2)).mono ?_; rintro e w3 ⟨rfl, hb3⟩)
        | (go_at_call 31; refine (AW.out _).mono ?_; rintro e w4 ⟨rfl, hb4⟩))
      go_ret
      have B3 := hb2.trans (hb3.mono hb2.size)
      exact ⟨rfl, B3.trans (hb4.mono B3.size)⟩
  · have dl : decide (80 < (l.length : Int)) = true := by simp; omega
    clear h hw hf hD
    go_enter Tryz.func9, Tryz.ntmps9
    go_wp2_with (go_at_call 31; refine (AW.out _).mono ?_; rintro e w3 ⟨rfl, hb3⟩)
    go_ret
    exact ⟨rfl, hb3⟩
end Go.Proofs.YtggfdlanobndjaaGreat
