/- The law CascadeWeak, walked. -/
import Derived.Test.YthplgcakhniidaaGreatL11b
import Derived.Test.YthplgcakhniidaaGreatWkP
import Derived.Test.YthplgcakhniidaaGreatQ3
import Derived.Deep.CutRange
namespace Go.Proofs.YthplgcakhniidaaGreat
open Go.RowKit Go.Maps
attribute [local irreducible] wpQuiet
set_option linter.unusedSimpArgs false
set_option linter.unusedVariables false

theorem unl_filter {l : List Pt} (h : unl l = true) (f : Pt → Bool) : unl (l.filter f) = true := by
  unfold unl ids at *
  rw [decide_eq_true_eq] at *
  exact h.sublist (List.Sublist.map _ List.filter_sublist)
theorem gone_at {l : List Pt} {D : List Bool} (hn : l.Nodup) {i : Nat} (hi : i < l.length) : (∀ h : i < D.length, D[i] = true → wkG l D l[i] = true) ∧ (∀ h : i < D.length, D[i] = false → wkG l D l[i] = false) ∧ (D.length ≤ i → wkG l D l[i] = false) := by
  rw [wkG_at hn hi]
  refine ⟨fun h e => by simp [h, e], fun h e => by simp [h, e], fun h => by simp [List.getElem?_eq_none h]⟩
theorem left_yes {l : List Pt} {D : List Bool} {i : Nat} (hi : i < l.length) (h : wkG l D l[i] = true) : (l.take (i + 1)).filter (fun q => !wkG l D q) = (l.take i).filter (fun q => !wkG l D q) := by
  rw [List.take_succ_eq_append_getElem hi, List.filter_append]; simp [h]
theorem left_no {l : List Pt} {D : List Bool} {i : Nat} (hi : i < l.length) (h : wkG l D l[i] = false) : (l.take (i + 1)).filter (fun q => !wkG l D q) = (l.take i).filter (fun q => !wkG l D q) ++ [l[i]] := by
  rw [List.take_succ_eq_append_getElem hi, List.filter_append]; simp [h]

set_option maxRecDepth 100000 in
set_option maxHeartbeats 8000000 in
theorem wCascadeWeak (a : Option Addr) (l : List Pt) (n c : Nat) (ab : Option Addr) (BL : List Bx) (nb kb : Nat) (ad : Option Addr) (D : List Bool) (nd kd : Nat) (w : World) (hn : l.length = n) (h : RdK ePt 3 w a l) (hf : ∀ p ∈ l, (Lit.int .i64 p.1).wf = true ∧ (Lit.int .i64 p.2.1).wf = true ∧ (Lit.int .u32 p.2.2).wf = true)
    (hnb : BL.length = nb) (hB : RdK eBx 5 w ab BL) (hcb : nb ≤ kb ∧ kb ≤ maxLen) (hnd : D.length = nd) (hD : Rd .bool w ad D) (hcd : nd ≤ kd ∧ kd ≤ maxLen) :
    Calls Tryz.prog 8 #[.slice a n c, .slice ab nb kb, .slice ad nd kd] w fun e w' => e = .returned (.bool true) ∧ Below w.heap.size w w' := by
  subst hn hnb hnd
  have hw : wfN l := fun p hp => (hf p hp).2.2
  have AW := Lib.hid (fun W => awake11 W)
  have HR := Lib.hid h
  have HB := Lib.hid hB
  have HD := Lib.hid hD
  have HCB := Lib.hid hcb.1
  have hcd2 : D.length ≤ maxLen := Nat.le_trans hcd.1 hcd.2
  clear h hB hD hf hcb
  by_cases hlen : l.length ≤ 80
  · have dl : decide (80 < (l.length : Int)) = false := by simp; omega
    rcases Bool.eq_false_or_eq_true (unl l) with hu | hu
    · have HN := Lib.hid (nodup_ids (show (ids l).Nodup by unfold unl at hu; simpa using hu))
      have cb1 := Lib.hid (fun W (r : RdK ePt 3 W a l) => tBuild a c l W r (by omega) hw hu)
      have HU := Lib.hid hu
      have HW := Lib.hid hw
      clear hu hw
      go_enter Tryz.func8, Tryz.ntmps8
      go_wp2_with fail
      refine (cb1.out _ HR.out).mono ?_
      rintro e w1 ⟨t, rfl, T1, hb1⟩
      have HT1 := Lib.hid T1
      have HB1 := Lib.hid hb1
      clear T1 hb1
      go_wp2_with fail
      refine (cb1.out _ (HR.out.below HB1.out)).mono ?_
      rintro e w2 ⟨u, rfl, U2, hb2⟩
      have HT2 := Lib.hid (HT1.out.below hb2 HT1.out.hi_le)
      have HU2 := Lib.hid U2
      have hs12 := hb2.size
      have hs01 := HB1.out.size
      have HB2 := Lib.hid (HB1.out.trans (hb2.mono HB1.out.size))
      clear U2 hb2 HT1 HB1 cb1
      go_wp2
      go_loopw [11, 52] (fun lv iv wr => ∃ (i : Nat), iv = .int .i64 i ∧ i ≤ l.length ∧ Hid (wr.ownsRow w2.heap.size 34 3 lv ((l.take i).filter fun q => !wkG l D q).length (((l.take i).filter fun q => !wkG l D q).flatMap ePt)) ∧ Hid (TreeAt wr w.heap.size w1.heap.size t l.length (wkA l D (l.take i))) ∧ Hid (TreeAt wr w1.heap.size w2.heap.size u l.length (wkA l D (l.drop (l.length - i)))) ∧ Hid (Below w.heap.size w wr) ∧ w2.heap.size ≤ wr.heap.size) (fun _ iv _ => l.length - (intOf iv).toNat)
      case atStart => exact ⟨0, rfl, Nat.zero_le _, by simp; exact World.ownsRow_nil _ _ _ _, Lib.hid (by rw [List.take_zero, wkA_nil]; exact HT2.out), Lib.hid (by rw [Nat.sub_zero, List.drop_length, wkA_nil]; exact HU2.out), HB2, Nat.le_refl _⟩
      case round =>
        obtain ⟨i, rfl, hi, HO, HT, HV, HBR, hsr⟩ := hrel
        by_cases hlt : i < l.length
        · have hkl2 : (i : Int) < (l.length : Int) := by omega
          obtain ⟨b2, off, ea, hbl, hcs⟩ := (HR.out.below HBR.out).get (by omega)
          have x0 := hcs i hlt 0 (by omega)
          have x1 := hcs i hlt 1 (by omega)
          have x2 := hcs i hlt 2 (by omega)
          simp only [ePt, List.getElem?_cons_zero, List.getElem?_cons_succ, Nat.add_zero] at x0 x1 x2
          obtain ⟨hg1, hg2, hg3⟩ := gone_at (D := D) HN.out hlt
          have LY := Lib.hid (fun (h : wkG l D l[i] = true) => left_yes (D := D) hlt h)
          have LN := Lib.hid (fun (h : wkG l D l[i] = false) => left_no (D := D) hlt h)
          have AY := Lib.hid (fun (h : wkG l D l[i] = true) => wkA_yes (l := l) (D := D) (x := l[i]) h (mem_take_more hlt))
          have AN := Lib.hid (fun (h : wkG l D l[i] = false) => wkA_no (l := l) (D := D) (x := l[i]) h (mem_take_more hlt))
          have AM := Lib.hid (wkA_mem (D := D) (List.getElem_mem hlt) (not_take HN.out hlt))
          have DT := Lib.hid (fun p => tDrop HT.out p)
          have hll : ((l.take i).filter fun q => !wkG l D q).length ≤ i := Nat.le_trans (List.length_filter_le _ _) (by rw [List.length_take]; omega)
          have HG1 := Lib.hid hg1
          have HG2 := Lib.hid hg2
          have HG3 := Lib.hid hg3
          have EA := Lib.hid ea
          clear hcs ea hg1 hg2 hg3
          generalize hq : l[i] = q at *
          clear hq
          obtain ⟨q1, q2, q3⟩ := q
          simp only at x0 x1 x2
          obtain rfl := EA.out
          clear EA
          by_cases hiD : i < D.length
          · obtain ⟨b3, off3, ea3, hbl3, hcs3⟩ := (HD.out.below HBR.out).get (by omega)
            have y0 := hcs3 i hiD
            have EA := Lib.hid ea3
            clear hcs3 ea3
            have hiD2 : decide ((D.length : Int) ≤ (i : Int)) = false := by simp; omega
            rcases Bool.eq_false_or_eq_true D[i] with hDi | hDi
            · have HQ := Lib.hid (HG1.out hiD hDi)
              rw [hDi] at y0
              obtain rfl := EA.out
              clear EA hDi
              clear HG1 HG2 HG3
              go_upto_if 65 with fail
              go_cut [11] from 55 to 104 (fun lv wx => ∃ lw : Value, lw = lv ∧ Hid (wx.ownsRow w2.heap.size 34 3 lw ((l.take (i + 1)).filter fun q => !wkG l D q).length (((l.take (i + 1)).filter fun q => !wkG l D q).flatMap ePt)) ∧ Hid (TreeAt wx w.heap.size w1.heap.size t l.length (wkA l D (l.take (i + 1)))) ∧ Hid (TreeAt wx w1.heap.size w2.heap.size u l.length (wkA l D (l.drop (l.length - i)))) ∧ Hid (Below w.heap.size w wx) ∧ w2.heap.size ≤ wx.heap.size)
              case first =>
                go_wp2_with (go_at_call 29; refine (DT.out (q1, q2, q3)).mono ?_; rintro e w4 ⟨rfl, hT4, hk4⟩; have hmm : decide ((q1, q2, q3) ∈ wkA l D (l.take i)) = true := by simpa using AM.out)
                go_meet
                exact ⟨_, rfl, Lib.hid (by rw [LY.out HQ.out]; exact rowK HO.out hk4 (fun g e h => by have := (HO.out.lt g e).1; have := h.2; omega)), Lib.hid (by rw [← AY.out HQ.out]; exact hT4), Lib.hid (HV.out.kept hk4 (fun k h1 _ h3 => by have := h3.2; omega)), Lib.hid (HBR.out.trans (hk4.toBelow HBR.out.size (fun k h => h.1))), Nat.le_trans hsr hk4.size⟩
              case rest =>
                clear x0 x1 x2 HO HT HV HBR hsr AY AN AM DT LY LN HQ
                obtain ⟨lw, rfl, HO5, HT5, HV5, HB5, hs5⟩ := hcut
                obtain ⟨k, hkk, hk, hk1⟩ : ∃ k : Nat, (l.length : Int) - 1 - (i : Int) = (k : Int) ∧ k < l.length ∧ l.length - i = k + 1 := ⟨l.length - 1 - i, by omega, by omega, by omega⟩
                have hk2 : l.length - (i + 1) = k := by omega
                have HV6 : Hid (TreeAt wc w1.heap.size w2.heap.size u l.length (wkA l D (l.drop (k + 1)))) := Lib.hid (hk1 ▸ HV5.out)
                have HK1 := Lib.hid hk1
                have HK2 := Lib.hid hk2
                obtain ⟨b5, off5, ea5, hbl5, hcs5⟩ := (HR.out.below HB5.out).get (by omega)
                have z0 := hcs5 k hk 0 (by omega)
                have z1 := hcs5 k hk 1 (by omega)
                have z2 := hcs5 k hk 2 (by omega)
                simp only [ePt, List.getElem?_cons_zero, List.getElem?_cons_succ, Nat.add_zero] at z0 z1 z2
                obtain ⟨rfl, rfl⟩ : b2 = b5 ∧ off = off5 := by simpa using ea5
                obtain ⟨hg1, hg2, hg3⟩ := gone_at (D := D) HN.out hk
                have BY := Lib.hid (fun (h : wkG l D l[k] = true) => wkA_yes (l := l) (D := D) (x := l[k]) h (mem_drop_more hk))
                have BN := Lib.hid (fun (h : wkG l D l[k] = false) => wkA_no (l := l) (D := D) (x := l[k]) h (mem_drop_more hk))
                have BM := Lib.hid (wkA_mem (D := D) (List.getElem_mem hk) (not_drop HN.out hk))
                have G1 := Lib.hid hg1
                have G2 := Lib.hid hg2
                have G3 := Lib.hid hg3
                have DU := Lib.hid (fun p => tDrop HV6.out p)
                clear hcs5 ea5 hg1 hg2 hg3 HV5 hk1 hk2
                generalize hr : l[k] = r at *
                clear hr
                obtain ⟨r1, r2, r3⟩ := r
                simp only at z0 z1 z2
                by_cases hkD : k < D.length
                · obtain ⟨b6, off6, ea6, hbl6, hcs6⟩ := (HD.out.below HB5.out).get (by omega)
                  have y6 := hcs6 k hkD
                  have EA := Lib.hid ea6
                  clear hcs6 ea6
                  have hkD2 : (k : Int) < (D.length : Int) := by omega
                  rcases Bool.eq_false_or_eq_true D[k] with hDk | hDk
                  · have HQ6 := Lib.hid (G1.out hkD hDk)
                    rw [hDk] at y6
                    obtain ⟨rfl, rfl⟩ : b3 = b6 ∧ off3 = off6 := by simpa using EA.out
                    clear hDk G1 G2 G3
                    go_wp2_with (go_at_call 29; refine (DU.out (r1, r2, r3)).mono ?_; rintro e w7 ⟨rfl, hT7, hk7⟩; have hmm7 : decide ((r1, r2, r3) ∈ wkA l D (l.drop (k + 1))) = true := by simpa using BM.out)
                    have V7 : TreeAt w7 w1.heap.size w2.heap.size u l.length (wkA l D (l.drop (l.length - (i + 1)))) := by rw [HK2.out, ← BY.out HQ6.out]; exact hT7
                    have T7 := HT5.out.kept hk7 (fun k _ h2 h3 => by have := h3.1; omega)
                    have O7 := rowK HO5.out hk7 (fun g e h => by have := (HO5.out.lt g e).1; have := h.2; omega)
                    exact ⟨⟨i + 1, by go_num, by omega, Lib.hid O7, Lib.hid T7, Lib.hid V7, Lib.hid (HB5.out.trans (hk7.toBelow HB5.out.size (fun k h => by have := h.1; omega))), Nat.le_trans hs5 hk7.size⟩, by simp [intOf]; omega⟩
                  · have HQ6 := Lib.hid (G2.out hkD hDk)
                    rw [hDk] at y6
                    obtain ⟨rfl, rfl⟩ : b3 = b6 ∧ off3 = off6 := by simpa using EA.out
                    clear hDk G1 G2 G3
                    go_wp2
                    have V7 : TreeAt wc w1.heap.size w2.heap.size u l.length (wkA l D (l.drop (l.length - (i + 1)))) := by rw [HK2.out, BN.out HQ6.out]; exact HV6.out
                    exact ⟨⟨i + 1, by go_num, by omega, HO5, HT5, Lib.hid V7, HB5, hs5⟩, by simp [intOf]; omega⟩
                · have HQ6 := Lib.hid (G3.out (by omega))
                  have hkD2 : ¬ ((k : Int) < (D.length : Int)) := by omega
                  clear G1 G2 G3
                  go_wp2
                  have V7 : TreeAt wc w1.heap.size w2.heap.size u l.length (wkA l D (l.drop (l.length - (i + 1)))) := by rw [HK2.out, BN.out HQ6.out]; exact HV6.out
                  exact ⟨⟨i + 1, by go_num, by omega, HO5, HT5, Lib.hid V7, HB5, hs5⟩, by simp [intOf]; omega⟩
            · have HQ := Lib.hid (HG2.out hiD hDi)
              rw [hDi] at y0
              obtain rfl := EA.out
              clear EA hDi
              clear HG1 HG2 HG3
              go_upto_if 65 with fail
              go_cut [11] from 55 to 104 (fun lv wx => ∃ lw : Value, lw = lv ∧ Hid (wx.ownsRow w2.heap.size 34 3 lw ((l.take (i + 1)).filter fun q => !wkG l D q).length (((l.take (i + 1)).filter fun q => !wkG l D q).flatMap ePt)) ∧ Hid (TreeAt wx w.heap.size w1.heap.size t l.length (wkA l D (l.take (i + 1)))) ∧ Hid (TreeAt wx w1.heap.size w2.heap.size u l.length (wkA l D (l.drop (l.length - i)))) ∧ Hid (Below w.heap.size w wx) ∧ w2.heap.size ≤ wx.heap.size)
              case first =>
                go_wp2_with (at_builtin; refine wp_append1 elPt10 w2.heap.size HO.out [.int .i64 q1, .int .i64 q2, .int .u32 q3] rfl (by simp [Value.oneCell']) rfl _ _ rfl rfl _ rfl (by unfold maxLen; omega) (by omega) hsr ?_; intro v4 w4 hown4 hg4)
                have b4 : Below w2.heap.size wr w4 := below_grown (Below.refl _ _) HO.out hg4 hsr (Nat.le_refl _)
                go_meet
                exact ⟨_, rfl, Lib.hid (by rw [LN.out HQ.out, List.length_append, List.flatMap_append]; simpa [ePt] using hown4), Lib.hid (by rw [AN.out HQ.out]; exact HT.out.below b4 hs12), Lib.hid (HV.out.below b4 (Nat.le_refl _)), Lib.hid (HBR.out.trans (b4.mono (by omega))), Nat.le_trans hsr b4.size⟩
              case rest =>
                clear x0 x1 x2 HO HT HV HBR hsr AY AN AM DT LY LN HQ
                obtain ⟨lw, rfl, HO5, HT5, HV5, HB5, hs5⟩ := hcut
                obtain ⟨k, hkk, hk, hk1⟩ : ∃ k : Nat, (l.length : Int) - 1 - (i : Int) = (k : Int) ∧ k < l.length ∧ l.length - i = k + 1 := ⟨l.length - 1 - i, by omega, by omega, by omega⟩
                have hk2 : l.length - (i + 1) = k := by omega
                have HV6 : Hid (TreeAt wc w1.heap.size w2.heap.size u l.length (wkA l D (l.drop (k + 1)))) := Lib.hid (hk1 ▸ HV5.out)
                have HK1 := Lib.hid hk1
                have HK2 := Lib.hid hk2
                obtain ⟨b5, off5, ea5, hbl5, hcs5⟩ := (HR.out.below HB5.out).get (by omega)
                have z0 := hcs5 k hk 0 (by omega)
                have z1 := hcs5 k hk 1 (by omega)
                have z2 := hcs5 k hk 2 (by omega)
                simp only [ePt, List.getElem?_cons_zero, List.getElem?_cons_succ, Nat.add_zero] at z0 z1 z2
                obtain ⟨rfl, rfl⟩ : b2 = b5 ∧ off = off5 := by simpa using ea5
                obtain ⟨hg1, hg2, hg3⟩ := gone_at (D := D) HN.out hk
                have BY := Lib.hid (fun (h : wkG l D l[k] = true) => wkA_yes (l := l) (D := D) (x := l[k]) h (mem_drop_more hk))
                have BN := Lib.hid (fun (h : wkG l D l[k] = false) => wkA_no (l := l) (D := D) (x := l[k]) h (mem_drop_more hk))
                have BM := Lib.hid (wkA_mem (D := D) (List.getElem_mem hk) (not_drop HN.out hk))
                have G1 := Lib.hid hg1
                have G2 := Lib.hid hg2
                have G3 := Lib.hid hg3
                have DU := Lib.hid (fun p => tDrop HV6.out p)
                clear hcs5 ea5 hg1 hg2 hg3 HV5 hk1 hk2
                generalize hr : l[k] = r at *
                clear hr
                obtain ⟨r1, r2, r3⟩ := r
                simp only at z0 z1 z2
                by_cases hkD : k < D.length
                · obtain ⟨b6, off6, ea6, hbl6, hcs6⟩ := (HD.out.below HB5.out).get (by omega)
                  have y6 := hcs6 k hkD
                  have EA := Lib.hid ea6
                  clear hcs6 ea6
                  have hkD2 : (k : Int) < (D.length : Int) := by omega
                  rcases Bool.eq_false_or_eq_true D[k] with hDk | hDk
                  · have HQ6 := Lib.hid (G1.out hkD hDk)
                    rw [hDk] at y6
                    obtain ⟨rfl, rfl⟩ : b3 = b6 ∧ off3 = off6 := by simpa using EA.out
                    clear hDk G1 G2 G3
                    go_wp2_with (go_at_call 29; refine (DU.out (r1, r2, r3)).mono ?_; rintro e w7 ⟨rfl, hT7, hk7⟩; have hmm7 : decide ((r1, r2, r3) ∈ wkA l D (l.drop (k + 1))) = true := by simpa using BM.out)
                    have V7 : TreeAt w7 w1.heap.size w2.heap.size u l.length (wkA l D (l.drop (l.length - (i + 1)))) := by rw [HK2.out, ← BY.out HQ6.out]; exact hT7
                    have T7 := HT5.out.kept hk7 (fun k _ h2 h3 => by have := h3.1; omega)
                    have O7 := rowK HO5.out hk7 (fun g e h => by have := (HO5.out.lt g e).1; have := h.2; omega)
                    exact ⟨⟨i + 1, by go_num, by omega, Lib.hid O7, Lib.hid T7, Lib.hid V7, Lib.hid (HB5.out.trans (hk7.toBelow HB5.out.size (fun k h => by have := h.1; omega))), Nat.le_trans hs5 hk7.size⟩, by simp [intOf]; omega⟩
                  · have HQ6 := Lib.hid (G2.out hkD hDk)
                    rw [hDk] at y6
                    obtain ⟨rfl, rfl⟩ : b3 = b6 ∧ off3 = off6 := by simpa using EA.out
                    clear hDk G1 G2 G3
                    go_wp2
                    have V7 : TreeAt wc w1.heap.size w2.heap.size u l.length (wkA l D (l.drop (l.length - (i + 1)))) := by rw [HK2.out, BN.out HQ6.out]; exact HV6.out
                    exact ⟨⟨i + 1, by go_num, by omega, HO5, HT5, Lib.hid V7, HB5, hs5⟩, by simp [intOf]; omega⟩
                · have HQ6 := Lib.hid (G3.out (by omega))
                  have hkD2 : ¬ ((k : Int) < (D.length : Int)) := by omega
                  clear G1 G2 G3
                  go_wp2
                  have V7 : TreeAt wc w1.heap.size w2.heap.size u l.length (wkA l D (l.drop (l.length - (i + 1)))) := by rw [HK2.out, BN.out HQ6.out]; exact HV6.out
                  exact ⟨⟨i + 1, by go_num, by omega, HO5, HT5, Lib.hid V7, HB5, hs5⟩, by simp [intOf]; omega⟩
          · have hiD2 : decide ((D.length : Int) ≤ (i : Int)) = true := by simp; omega
            have HQ := Lib.hid (HG3.out (by omega))
            clear HG1 HG2 HG3
            go_upto_if 65 with fail
            go_cut [11] from 55 to 104 (fun lv wx => ∃ lw : Value, lw = lv ∧ Hid (wx.ownsRow w2.heap.size 34 3 lw ((l.take (i + 1)).filter fun q => !wkG l D q).length (((l.take (i + 1)).filter fun q => !wkG l D q).flatMap ePt)) ∧ Hid (TreeAt wx w.heap.size w1.heap.size t l.length (wkA l D (l.take (i + 1)))) ∧ Hid (TreeAt wx w1.heap.size w2.heap.size u l.length (wkA l D (l.drop (l.length - i)))) ∧ Hid (Below w.heap.size w wx) ∧ w2.heap.size ≤ wx.heap.size)
            case first =>
              go_wp2_with (at_builtin; refine wp_append1 elPt10 w2.heap.size HO.out [.int .i64 q1, .int .i64 q2, .int .u32 q3] rfl (by simp [Value.oneCell']) rfl _ _ rfl rfl _ rfl (by unfold maxLen; omega) (by omega) hsr ?_; intro v4 w4 hown4 hg4)
              have b4 : Below w2.heap.size wr w4 := below_grown (Below.refl _ _) HO.out hg4 hsr (Nat.le_refl _)
              go_meet
              exact ⟨_, rfl, Lib.hid (by rw [LN.out HQ.out, List.length_append, List.flatMap_append]; simpa [ePt] using hown4), Lib.hid (by rw [AN.out HQ.out]; exact HT.out.below b4 hs12), Lib.hid (HV.out.below b4 (Nat.le_refl _)), Lib.hid (HBR.out.trans (b4.mono (by omega))), Nat.le_trans hsr b4.size⟩
            case rest =>
              clear x0 x1 x2 HO HT HV HBR hsr AY AN AM DT LY LN HQ
              obtain ⟨lw, rfl, HO5, HT5, HV5, HB5, hs5⟩ := hcut
              obtain ⟨k, hkk, hk, hk1⟩ : ∃ k : Nat, (l.length : Int) - 1 - (i : Int) = (k : Int) ∧ k < l.length ∧ l.length - i = k + 1 := ⟨l.length - 1 - i, by omega, by omega, by omega⟩
              have hk2 : l.length - (i + 1) = k := by omega
              have HV6 : Hid (TreeAt wc w1.heap.size w2.heap.size u l.length (wkA l D (l.drop (k + 1)))) := Lib.hid (hk1 ▸ HV5.out)
              have HK1 := Lib.hid hk1
              have HK2 := Lib.hid hk2
              obtain ⟨b5, off5, ea5, hbl5, hcs5⟩ := (HR.out.below HB5.out).get (by omega)
              have z0 := hcs5 k hk 0 (by omega)
              have z1 := hcs5 k hk 1 (by omega)
              have z2 := hcs5 k hk 2 (by omega)
              simp only [ePt, List.getElem?_cons_zero, List.getElem?_cons_succ, Nat.add_zero] at z0 z1 z2
              obtain ⟨rfl, rfl⟩ : b2 = b5 ∧ off = off5 := by simpa using ea5
              obtain ⟨hg1, hg2, hg3⟩ := gone_at (D := D) HN.out hk
              have BY := Lib.hid (fun (h : wkG l D l[k] = true) => wkA_yes (l := l) (D := D) (x := l[k]) h (mem_drop_more hk))
              have BN := Lib.hid (fun (h : wkG l D l[k] = false) => wkA_no (l := l) (D := D) (x := l[k]) h (mem_drop_more hk))
              have BM := Lib.hid (wkA_mem (D := D) (List.getElem_mem hk) (not_drop HN.out hk))
              have G1 := Lib.hid hg1
              have G2 := Lib.hid hg2
              have G3 := Lib.hid hg3
              have DU := Lib.hid (fun p => tDrop HV6.out p)
              clear hcs5 ea5 hg1 hg2 hg3 HV5 hk1 hk2
              generalize hr : l[k] = r at *
              clear hr
              obtain ⟨r1, r2, r3⟩ := r
              simp only at z0 z1 z2
              by_cases hkD : k < D.length
              · obtain ⟨b6, off6, ea6, hbl6, hcs6⟩ := (HD.out.below HB5.out).get (by omega)
                have y6 := hcs6 k hkD
                have EA := Lib.hid ea6
                clear hcs6 ea6
                have hkD2 : (k : Int) < (D.length : Int) := by omega
                rcases Bool.eq_false_or_eq_true D[k] with hDk | hDk
                · have HQ6 := Lib.hid (G1.out hkD hDk)
                  rw [hDk] at y6
                  obtain rfl := EA.out
                  clear hDk G1 G2 G3
                  go_wp2_with (go_at_call 29; refine (DU.out (r1, r2, r3)).mono ?_; rintro e w7 ⟨rfl, hT7, hk7⟩; have hmm7 : decide ((r1, r2, r3) ∈ wkA l D (l.drop (k + 1))) = true := by simpa using BM.out)
                  have V7 : TreeAt w7 w1.heap.size w2.heap.size u l.length (wkA l D (l.drop (l.length - (i + 1)))) := by rw [HK2.out, ← BY.out HQ6.out]; exact hT7
                  have T7 := HT5.out.kept hk7 (fun k _ h2 h3 => by have := h3.1; omega)
                  have O7 := rowK HO5.out hk7 (fun g e h => by have := (HO5.out.lt g e).1; have := h.2; omega)
                  exact ⟨⟨i + 1, by go_num, by omega, Lib.hid O7, Lib.hid T7, Lib.hid V7, Lib.hid (HB5.out.trans (hk7.toBelow HB5.out.size (fun k h => by have := h.1; omega))), Nat.le_trans hs5 hk7.size⟩, by simp [intOf]; omega⟩
                · have HQ6 := Lib.hid (G2.out hkD hDk)
                  rw [hDk] at y6
                  obtain rfl := EA.out
                  clear hDk G1 G2 G3
                  go_wp2
                  have V7 : TreeAt wc w1.heap.size w2.heap.size u l.length (wkA l D (l.drop (l.length - (i + 1)))) := by rw [HK2.out, BN.out HQ6.out]; exact HV6.out
                  exact ⟨⟨i + 1, by go_num, by omega, HO5, HT5, Lib.hid V7, HB5, hs5⟩, by simp [intOf]; omega⟩
              · have HQ6 := Lib.hid (G3.out (by omega))
                have hkD2 : ¬ ((k : Int) < (D.length : Int)) := by omega
                clear G1 G2 G3
                go_wp2
                have V7 : TreeAt wc w1.heap.size w2.heap.size u l.length (wkA l D (l.drop (l.length - (i + 1)))) := by rw [HK2.out, BN.out HQ6.out]; exact HV6.out
                exact ⟨⟨i + 1, by go_num, by omega, HO5, HT5, Lib.hid V7, HB5, hs5⟩, by simp [intOf]; omega⟩
        · have hdummy : True := trivial
          obtain rfl : i = l.length := by omega
          have HO1 : wr.ownsRow w2.heap.size 34 3 u11 (l.filter fun q => !wkG l D q).length ((l.filter fun q => !wkG l D q).flatMap ePt) := by have h9 := HO.out; rw [List.take_length] at h9; exact h9
          have HT1 : TreeAt wr w.heap.size w1.heap.size t l.length (l.filter fun q => !wkG l D q) := by have h9 := HT.out; rw [List.take_length, wkA_all (fun _ h => h)] at h9; exact h9
          have HV1 : TreeAt wr w1.heap.size w2.heap.size u l.length (l.filter fun q => !wkG l D q) := by have h9 := HV.out; rw [Nat.sub_self, List.drop_zero, wkA_all (fun _ h => h)] at h9; exact h9
          have UG := Lib.hid (unl_filter HU.out (fun q => !wkG l D q))
          have WG := Lib.hid (show wfN (l.filter fun q => !wkG l D q) from fun p hp => HW.out p (List.mem_filter.1 hp).1)
          have hgl : (l.filter fun q => !wkG l D q).length ≤ 80 := Nat.le_trans (List.length_filter_le _ _) hlen
          clear HO HT HV
          generalize (l.filter fun q => !wkG l D q) = G at *
          obtain ⟨ag, kg, rfl, -, -, hrg⟩ := RdK.of_owns ePt_len (by decide) HO1
          have HT2 := Lib.hid HT1
          have HV2 := Lib.hid HV1
          have HRG := Lib.hid hrg
          clear HO1 HT1 HV1 hrg
          go_wp2_with fail
          refine (tBuild ag kg G wr HRG.out (by omega) WG.out UG.out).mono ?_
          rintro e w3 ⟨tv, rfl, Y3, hb3⟩
          have T3 := HT2.out.below hb3 HT2.out.hi_le
          have V3 := HV2.out.below hb3 HV2.out.hi_le
          have B3 := HBR.out.trans (hb3.mono HBR.out.size)
          have LT := Lib.hid (tLen T3)
          have LV := Lib.hid (tLen V3)
          have HT3 := Lib.hid T3
          have HV3 := Lib.hid V3
          have HY3 := Lib.hid Y3
          have HB3 := Lib.hid B3
          clear T3 V3 Y3 B3 hb3 HT2 HV2 HRG UG WG
          obtain ⟨mb, hmb, hmb1, hmb2⟩ : ∃ m : Nat, min (BL.length : Int) 12 = (m : Int) ∧ m ≤ BL.length ∧ m ≤ 12 := ⟨min BL.length 12, by omega, by omega, by omega⟩
          go_wp2_with fail
          refine LT.out.mono ?_
          rintro e w4 ⟨rfl, rfl⟩
          go_wp2_with fail
          refine LV.out.mono ?_
          rintro e w5 ⟨rfl, rfl⟩
          go_wp2_with (refine wp_sliceK elBx (HB.out.below HB3.out) HCB.out 0 mb (Nat.zero_le _) hmb1 rfl _ _ _ rfl rfl rfl rfl ?_; intro ad' hr; simp only [Nat.sub_zero, List.drop_zero] at hr ⊢)
          have hPl : (BL.take mb).length = mb := by simp; omega
          have HPR := Lib.hid hr
          clear hr LT LV hmb HB HCB hmb1
          generalize BL.take mb = P at *
          subst hPl
          go_loopw [132] (fun kv wr => ∃ k : Nat, kv = .int .i64 k ∧ k ≤ P.length ∧ Hid (Below w5.heap.size w5 wr)) (fun kv _ => P.length - (intOf kv).toNat)
          case atStart => exact ⟨0, rfl, Nat.zero_le _, Lib.hid (Below.refl _ _)⟩
          case round =>
            obtain ⟨k, rfl, hk, HBK⟩ := hrel
            by_cases hkl : k < P.length
            · have hb := HBK.out
              obtain ⟨b9, off9, ea, hbl, hcs⟩ := (HPR.out.below hb).get (by omega)
              have x0 := hcs k hkl 0 (by omega)
              have x1 := hcs k hkl 1 (by omega)
              have x2 := hcs k hkl 2 (by omega)
              have x3 := hcs k hkl 3 (by omega)
              have x4 := hcs k hkl 4 (by omega)
              simp only [eBx, List.getElem?_cons_zero, List.getElem?_cons_succ, Nat.add_zero] at x0 x1 x2 x3 x4
              have EA := Lib.hid ea
              clear hcs ea
              generalize P[k] = q at *
              obtain ⟨q1, q2, q3, q4, q5⟩ := q
              simp only at x0 x1 x2 x3 x4
              have hkl2 : (k : Int) < (P.length : Int) := by omega
              obtain rfl := EA.out
              clear EA
              obtain ⟨w6, ew6⟩ : ∃ w6, w6 = wr.alloc (.cells #[.int .i64 q1, .int .i64 q2, .int .i64 q3, .int .i64 q4, .int .u32 q5] 39) := ⟨_, rfl⟩
              have b6 : Below wr.heap.size wr w6 := by rw [ew6]; exact (Below.refl _ _).alloc (Nat.le_refl _) _
              have X6 : w6.heap[wr.heap.size]? = some (objBx (q1, q2, q3, q4, q5)) := by rw [ew6]; exact lit0 _ _
              have B6 := hb.trans (b6.mono hb.size)
              have EX := ew6.symm
              obtain ⟨y0, y1, y2, y3, y4⟩ := objBx_cells X6
              clear ew6 b6 hb
              have XH := Lib.hid X6
              clear X6
              go_wp2_with fail
              have X6 := XH.out
              (try rw [EX])
              clear XH EX x0 x1 x2 x3 x4 y0 y1 y2 y3 y4
              refine (tReport (HT3.out.below B6 HT3.out.hi_le) q1 q2 q3 q4 q5).mono ?_
              rintro e w7 ⟨v7, c7, rfl, -, hown7, hb7⟩
              obtain ⟨a7, k7, rfl, -, -, hr7⟩ := Rd.of_owns hown7
              have B7 := B6.trans (hb7.mono B6.size)
              have X7 := (hb7.block _ (Array.getElem?_eq_some_iff.1 X6).1).trans X6
              clear B6 X6 hb7
              have R7_7 := Lib.hid hr7
              clear hr7 hown7
              obtain ⟨y0, y1, y2, y3, y4⟩ := objBx_cells X7
              have XH := Lib.hid X7
              clear X7
              go_wp2_with fail
              have X7 := XH.out
              clear XH y0 y1 y2 y3 y4
              refine (tReport (HV3.out.below B7 HV3.out.hi_le) q1 q2 q3 q4 q5).mono ?_
              rintro e w8 ⟨v8, c8, rfl, -, hown8, hb8⟩
              obtain ⟨a8, k8, rfl, -, -, hr8⟩ := Rd.of_owns hown8
              have B8 := B7.trans (hb8.mono B7.size)
              have X8 := (hb8.block _ (Array.getElem?_eq_some_iff.1 X7).1).trans X7
              have R7_8 := Lib.hid (R7_7.out.below hb8)
              clear B7 X7 hb8 R7_7
              have R8_8 := Lib.hid hr8
              clear hr8 hown8
              obtain ⟨y0, y1, y2, y3, y4⟩ := objBx_cells X8
              have XH := Lib.hid X8
              clear X8
              go_wp2_with fail
              have X8 := XH.out
              clear XH y0 y1 y2 y3 y4
              refine (tReport (HY3.out.below B8 HY3.out.hi_le) q1 q2 q3 q4 q5).mono ?_
              rintro e w9 ⟨v9, c9, rfl, -, hown9, hb9⟩
              obtain ⟨a9, k9, rfl, -, -, hr9⟩ := Rd.of_owns hown9
              have B9 := B8.trans (hb9.mono B8.size)
              have X9 := (hb9.block _ (Array.getElem?_eq_some_iff.1 X8).1).trans X8
              have R7_9 := Lib.hid (R7_8.out.below hb9)
              have R8_9 := Lib.hid (R8_8.out.below hb9)
              clear B8 X8 hb9 R7_8 R8_8
              have R9_9 := Lib.hid hr9
              clear hr9 hown9
              have hgN : (hasB G q1 q2 q3 q4).length ≤ 80 := by rw [hasB_len]; exact Nat.le_trans (List.length_filter_le _ _) hgl
              generalize hasB G q1 q2 q3 q4 = N at *
              obtain ⟨y0, y1, y2, y3, y4⟩ := objBx_cells X9
              have XH := Lib.hid X9
              clear X9
              go_wp2_with fail
              have X9 := XH.out
              clear XH y0 y1 y2 y3 y4
              refine (same11 a7 a8 N N _ _ k7 k8 w9 rfl rfl R7_9.out R8_9.out (by omega) (by omega)).mono ?_
              rintro e w10 ⟨rfl, hb10⟩
              have B10 := B9.trans (hb10.mono B9.size)
              have X10 := (hb10.block _ (Array.getElem?_eq_some_iff.1 X9).1).trans X9
              have R7_10 := Lib.hid (R7_9.out.below hb10)
              have R8_10 := Lib.hid (R8_9.out.below hb10)
              have R9_10 := Lib.hid (R9_9.out.below hb10)
              clear B9 X9 hb10 R7_9 R8_9 R9_9
              have hdt : decide (N = N) = true := by simp
              obtain ⟨y0, y1, y2, y3, y4⟩ := objBx_cells X10
              have XH := Lib.hid X10
              clear X10
              go_wp2_with fail
              have X10 := XH.out
              clear XH y0 y1 y2 y3 y4
              refine (same11 a7 a9 N N _ _ k7 k9 w10 rfl rfl R7_10.out R9_10.out (by omega) (by omega)).mono ?_
              rintro e w11 ⟨rfl, hb11⟩
              have B11 := B10.trans (hb11.mono B10.size)
              have X11 := (hb11.block _ (Array.getElem?_eq_some_iff.1 X10).1).trans X10
              have R7_11 := Lib.hid (R7_10.out.below hb11)
              have R8_11 := Lib.hid (R8_10.out.below hb11)
              have R9_11 := Lib.hid (R9_10.out.below hb11)
              clear B10 X10 hb11 R7_10 R8_10 R9_10
              clear X11
              go_wp2
              exact ⟨⟨k + 1, by go_num, by omega, Lib.hid B11⟩, by simp [intOf]; omega⟩
            · obtain rfl : k = P.length := by omega
              have BR := HB3.out.trans (HBK.out.mono HB3.out.size)
              go_wp2_with (go_at_call 20; refine (AW.out _).mono ?_; rintro e w9 ⟨rfl, hb9⟩)
              go_ret
              exact ⟨rfl, BR.trans (hb9.mono BR.size)⟩
    · have cb1 := Lib.hid (fun W (r : RdK ePt 3 W a l) => casc_build_bad a c l W r (by omega) hw hu)
      go_enter Tryz.func8, Tryz.ntmps8
      go_wp2_with fail
      refine (cb1.out _ HR.out).mono ?_
      rintro e w1 ⟨rfl, hb1⟩
      go_wp2_with fail
      refine (cb1.out _ (HR.out.below hb1)).mono ?_
      rintro e w2 ⟨rfl, hb2⟩
      have B2 := hb1.trans (hb2.mono hb1.size)
      go_wp2_with (go_at_call 20; refine (AW.out _).mono ?_; rintro e w9 ⟨rfl, hb9⟩)
      go_ret
      exact ⟨rfl, B2.trans (hb9.mono B2.size)⟩
  · have dl : decide (80 < (l.length : Int)) = true := by simp; omega
    go_enter Tryz.func8, Tryz.ntmps8
    go_wp2_with (go_at_call 20; refine (AW.out _).mono ?_; rintro e w3 ⟨rfl, hb3⟩)
    go_ret
    exact ⟨rfl, hb3⟩
end Go.Proofs.YthplgcakhniidaaGreat
