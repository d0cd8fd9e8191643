/- The law StairCorner, walked. -/
import Derived.Test.YthpgkldpbbajfaaGreatQ9
import Derived.Test.YthpgkldpbbajfaaGreatQ10
import Derived.Test.YthpgkldpbbajfaaGreatQ7
import Derived.Deep.CutRange
import Derived.Deep.RegionWith
namespace Go.Proofs.YthpgkldpbbajfaaGreat
open Go.RowKit Go.Maps
attribute [local irreducible] wpQuiet
set_option linter.unusedSimpArgs false
set_option linter.unusedVariables false

theorem sc_nodup {l : List Pt} (h : unl l = true) : l.Nodup :=
  List.Pairwise.of_map (fun p : Pt => p.2.2) (fun a b hab e => hab (by rw [e])) (show (ids l).Nodup from (unl_iff l).1 h)
theorem sc_count {l : List Pt} (hu : unl l = true) {p : Pt} (hp : p ∈ l) : (((skyOf l).count p : Int) == 1) = !btn (skyOf l) p := by
  have hS := skyOf_is ((unl_iff l).1 hu)
  have hn := sc_nodup (unl_sky hu)
  have hm : p ∈ skyOf l ↔ btn (skyOf l) p = false := by rw [hS.2 p, btn_sky hS]; exact ⟨fun h => h.2, fun h => ⟨hp, h⟩⟩
  cases hb : btn (skyOf l) p
  · have h1 := List.one_le_count_iff.2 (hm.2 hb)
    have h2 := List.nodup_iff_count.1 hn p
    have h3 : (skyOf l).count p = 1 := by omega
    rw [h3]; rfl
  · have h1 : p ∉ skyOf l := fun h => by rw [hm.1 h] at hb; cases hb
    rw [List.count_eq_zero.2 h1]; rfl
theorem sc_over {l : List Pt} (hu : unl l = true) (p : Pt) : (((hasN l fun q => ovr q p).length : Int) == 0) = !btn (skyOf l) p := by
  have hS := skyOf_is ((unl_iff l).1 hu)
  rw [btn_sky hS, hasN_len]
  unfold btn
  cases hb : l.any fun q => ovr q p
  · have : (l.filter fun q => ovr q p) = [] := List.filter_eq_nil_iff.2 fun q hq h => by
      have := List.any_eq_false.1 hb q hq
      exact this h
    rw [this]; rfl
  · obtain ⟨q, hq, h⟩ := List.any_eq_true.1 hb
    have h9 : 0 < (l.filter fun q => ovr q p).length := List.length_pos_of_mem (List.mem_filter.2 ⟨hq, h⟩)
    simp only [Bool.not_true, beq_eq_false_iff_ne]
    omega
theorem grown_of15 {w w' : World} (h : Below w.heap.size w w') : w.grownBy w' none := ⟨h.os, h.tape, h.output, h.size, fun k hk _ => h.block k hk⟩
theorem sc_step {wm wr w33 : World} {o : Obj} (hmb : wm.heap.size < wr.heap.size) (hg : (wr.alloc o).grownBy w33 (some wm.heap.size)) :
    Below wm.heap.size wr w33 ∧ wr.heap.size < w33.heap.size := by
  obtain ⟨h1, h2, h3, h4, h5⟩ := hg
  refine ⟨⟨h1, h2, h3, by simp at h4; omega, fun k hk => ?_⟩, by simp at h4; omega⟩
  have h9 := (Below.refl wr.heap.size wr).alloc (Nat.le_refl _) o
  exact (h5 k (by simp; omega) (fun e => by injection e with e; omega)).trans (h9.block k (by omega))

set_option maxRecDepth 100000 in
set_option maxHeartbeats 4000000 in
theorem wStairCorner (a : Option Addr) (l : List Pt) (n c : Nat) (w : World) (hn : l.length = n) (h : RdK ePt 3 w a l) (hf : wfL l) :
    Calls Tryz.prog 3 #[.slice a n c] w fun e w' => e = .returned (.bool true) ∧ Below w.heap.size w w' := by
  subst hn
  have AW := Lib.hid awake15
  have H := Lib.hid h
  have HWL := Lib.hid hf
  have hw : wfN l := fun p hp => (hf p hp).2.2
  clear h hf
  by_cases h60 : 60 < l.length
  · have dl : decide (60 < (l.length : Int)) = true := by simp; omega
    go_enter Tryz.func3, Tryz.ntmps3
    go_wp2_with fail
    refine (AW.out w).mono ?_
    rintro e w1 ⟨rfl, hb⟩
    go_wp2_with fail
    go_ret
    exact ⟨rfl, hb⟩
  · have dl : decide (60 < (l.length : Int)) = false := by simp; omega
    have C1 := Lib.hid (unlike15 a l l.length c w rfl H.out (by omega))
    rcases Bool.eq_false_or_eq_true (unl l) with hu | hu
    rotate_left
    · rw [hu] at C1
      clear hu H hw
      go_enter Tryz.func3, Tryz.ntmps3
      go_wp2_with fail
      refine C1.out.mono ?_
      rintro e w1 ⟨rfl, hb⟩
      go_wp2_with fail
      refine (AW.out w1).mono ?_
      rintro e w2 ⟨rfl, hb2⟩
      go_wp2_with fail
      go_ret
      exact ⟨rfl, hb.trans (hb2.mono hb.size)⟩
    · rw [hu] at C1
      have hlen : l.length ≤ 60 := by omega
      have hsk := skyOf_len (l := l)
      have HWS : Hid (∀ p ∈ skyOf l, wfP p) := fun p hp => HWL.out p (sky_sub hu hp)
      have O1 := Lib.hid (fun W hr => ofC l hu hw (by omega) a l.length c W rfl hr)
      have O2 := Lib.hid (fun W hr => coBuild a c l W hr (by omega) hw hu)
      have SC : Hid (∀ p ∈ l, (((skyOf l).count p : Int) == 1) = !btn (skyOf l) p) := fun p hp => sc_count hu hp
      have SO : Hid (∀ p ∈ l, (((hasN l fun q => ovr q p).length : Int) == 0) = !btn (skyOf l) p) := fun p hp => sc_over hu p
      clear hu hw h60
      generalize skyOf l = S at *
      go_enter Tryz.func3, Tryz.ntmps3
      go_wp2_with fail
      refine C1.out.mono ?_
      rintro e w1 ⟨rfl, hb1⟩
      have H1 := Lib.hid (H.out.below hb1)
      have HB1 := Lib.hid hb1
      clear H C1 hb1
      go_wp2_with fail
      refine (O1.out w1 H1.out).mono ?_
      rintro e w2 ⟨a2, c2, rfl, hc2, R2, hb2⟩
      have HR2 := Lib.hid R2
      have HB2 := Lib.hid (HB1.out.trans (hb2.mono HB1.out.size))
      have H2 := Lib.hid (H1.out.below hb2)
      clear H1 HB1 hb2 O1 R2 hc2
      go_wp2_with fail
      refine (O2.out w2 H2.out).mono ?_
      rintro e w3 ⟨cb, rfl, T3, hb3⟩
      have HT3 := Lib.hid T3
      have HB3 := Lib.hid (HB2.out.trans (hb3.mono HB2.out.size))
      have H3 := Lib.hid (H2.out.below hb3)
      have R3 := Lib.hid (HR2.out.below hb3)
      have hs3 := HB3.out.size
      clear H2 HB2 hb3 O2 T3 HR2
      have hmm := @run_makeMap Tryz.prog
      go_wp2
      clear hmm
      go_loopw [42] (fun kv wr => ∃ k : Nat, kv = .int .i64 k ∧ k ≤ S.length ∧ w3.heap.size < wr.heap.size ∧ Below w3.heap.size w3 wr ∧ Hid (∃ (D : DataW Unit), wr.ownsMap Tryz.prog 34 (plainElem Tryz.prog 3) w3.heap.size k D ∧ IsC D (S.take k))) (fun kv _ => S.length - (intOf kv).toNat)
      case atStart => exact ⟨0, rfl, Nat.zero_le _, by simp, (Below.refl _ _).alloc (Nat.le_refl _) _, ⟨.map [], World.ownsMap_made _ _ _ _, IsC.empty⟩⟩
      case round =>
        obtain ⟨k, rfl, hk, hmb, hb, HM⟩ := hrel
        by_cases hkl : k < S.length
        · obtain ⟨b, off, ea, hbl, hcs⟩ := (R3.out.below hb).get (by omega)
          have x0 := hcs k hkl 0 (by omega)
          have x1 := hcs k hkl 1 (by omega)
          have x2 := hcs k hkl 2 (by omega)
          simp only [ePt, List.getElem?_cons_zero, List.getElem?_cons_succ, Nat.add_zero] at x0 x1 x2
          obtain ⟨D, hown0, hD⟩ := HM.out
          have hwk := HWS.out S[k] (List.getElem_mem _)
          have et : S.take (k + 1) = S.take k ++ [S[k]] := List.take_succ_eq_append_getElem hkl
          have hcnt : List.count S[k] (S.take k) ≤ k := by
            have := List.count_le_length (a := S[k]) (l := S.take k)
            simp at this; omega
          have HD2 := hD.put hwk
          rw [← et] at HD2
          have hat := hD.at0 hwk
          have hkey := kp_key hwk
          have HD := Lib.hid HD2
          have EA := Lib.hid ea
          clear HM et hcs HD2 hD ea hwk
          generalize List.count S[k] (S.take k) = cn at *
          generalize S[k] = p at *
          obtain ⟨px, py, pi⟩ := p
          simp only at x0 x1 x2 hkey hat HD
          obtain rfl := EA.out
          clear EA
          have hkl2 : (k : Int) < (S.length : Int) := by omega
          have hownW := (hown0.alloc (.cells #[.int .i64 px, .int .i64 py, .int .u32 pi] 34)).drew
          obtain ⟨r0, r1, r2⟩ := obP_cells (W := wr.alloc (.cells #[.int .i64 px, .int .i64 py, .int .u32 pi] 34)) (b := wr.heap.size) (p := (px, py, pi)) (lit0 _ _)
          simp only at r0 r1 r2
          obtain ⟨v0, st, W1, W2, e1, e2, e3, e4, hown2, hg2, hg1⟩ := bump_runs ptLaw Tryz.underlying31 Tryz.underlying3 (fun u => Tryz.zeroValue3 u) hownW (by unfold maxLen; omega) hkey hat (by simp [Lit.wf, IntKind.min, IntKind.max, IntKind.bits, IntKind.signed]; omega)
          simp only [vPt] at e1 e2 e3
          go_wp2
          go_region
          all_goals
            obtain ⟨B3', hg34⟩ := sc_step (o := .cells #[.int .i64 px, .int .i64 py, .int .u32 pi] 34) (wm := w3) (w33 := W2) hmb ⟨hg2.os, hg2.tape, hg2.output, hg2.size, hg2.block⟩
            have HO3 : Hid (∃ (D : DataW Unit), W2.ownsMap Tryz.prog 34 (plainElem Tryz.prog 3) w3.heap.size (k + 1) D ∧ IsC D (S.take (k + 1))) := ⟨_, hown2, HD.out⟩
            have hm2 : w3.heap.size < W2.heap.size := by omega
            have BE := hb.trans B3'
            clear hown2 hg2 hg1 HD e1 e2 e3 e4 r0 r1 r2 x0 x1 x2 B3' hown0 hownW
            go_wp2
            go_roundw
            case rel => exact ⟨k + 1, by go_num, by omega, hm2, BE, HO3⟩
            case measure => simp [intOf]; omega
        · obtain rfl : k = S.length := by omega
          rw [List.take_length] at HM
          obtain ⟨D, hownM, hD⟩ := HM.out
          have HIM := Lib.hid hD
          have HOM := Lib.hid hownM
          have H6 := Lib.hid (H3.out.below hb)
          have HT6 := Lib.hid (HT3.out.below hb HT3.out.hi_le)
          have HB6 := Lib.hid (HB3.out.trans (hb.mono hs3))
          obtain ⟨wo, ewo⟩ : ∃ wo : World, wo = wr := ⟨_, rfl⟩
          subst ewo
          clear HM hD hownM hb R3 H3 HWS HB3 HT3
          go_wp2
          go_loopw [55] (fun kv wr => ∃ k : Nat, kv = .int .i64 k ∧ k ≤ l.length ∧ Hid (Below wo.heap.size wo wr)) (fun kv _ => l.length - (intOf kv).toNat)
          case atStart => exact ⟨0, rfl, Nat.zero_le _, Lib.hid (Below.refl _ _)⟩
          case round =>
            obtain ⟨k, rfl, hk, HB7⟩ := hrel
            by_cases hkl : k < l.length
            · have hb7 := HB7.out
              obtain ⟨b, off, ea, hbl, hcs⟩ := (H6.out.below hb7).get (by omega)
              have x0 := hcs k hkl 0 (by omega)
              have x1 := hcs k hkl 1 (by omega)
              have x2 := hcs k hkl 2 (by omega)
              simp only [ePt, List.getElem?_cons_zero, List.getElem?_cons_succ, Nat.add_zero] at x0 x1 x2
              have hmem : l[k] ∈ l := List.getElem_mem hkl
              have hwk := HWL.out _ hmem
              have HSC := Lib.hid (SC.out _ hmem)
              have HSO := Lib.hid (SO.out _ hmem)
              have hkey := Lib.hid (kp_key (show wfP l[k] from hwk))
              have HA0 : Hid (∀ cc : Int, D.atKey (kp l[k]) (.lit (.int .i64 0)) = .lit (.int .i64 cc) → cc = (S.count l[k] : Nat)) := fun cc hcc => by
                have := HIM.out.at0 (show wfP l[k] from hwk)
                rw [this] at hcc
                simpa using hcc.symm
              have HWK := Lib.hid hwk
              have EA := Lib.hid ea
              clear hcs ea hmem hwk
              generalize S.count l[k] = cn at *
              generalize l[k] = p at *
              obtain ⟨px, py, pi⟩ := p
              simp only at x0 x1 x2 hkey
              obtain rfl := EA.out
              clear EA
              have hkl2 : (k : Int) < (l.length : Int) := by omega
              obtain ⟨w4, ew4⟩ : ∃ w4, w4 = wr.alloc (.cells #[.int .i64 px, .int .i64 py, .int .u32 pi] 34) := ⟨_, rfl⟩
              have b4 : Below wr.heap.size wr w4 := by rw [ew4]; exact (Below.refl _ _).alloc (Nat.le_refl _) _
              have X4 : w4.heap[wr.heap.size]? = some (obP (px, py, pi)) := by rw [ew4]; exact lit0 _ _
              have B4 := hb7.trans (b4.mono hb7.size)
              have EX := ew4.symm
              obtain ⟨y0, y1, y2⟩ := obP_cells X4
              simp only at y0 y1 y2
              clear ew4 b4 hb7
              have XH := Lib.hid X4
              clear X4
              go_wp2_with fail
              have X4 := XH.out
              (try rw [EX])
              clear XH EX x0 x1 x2 y0 y1 y2
              refine (coOver (HT6.out.below B4 HT6.out.hi_le) HWL.out px py pi HWK.out.1 HWK.out.2.1).mono ?_
              rintro e w5 ⟨v5, c5, rfl, -, hown5, hb5⟩
              obtain ⟨a5, k5, rfl, -, -, -⟩ := Rd.of_owns hown5
              have X5 := (hb5.block _ (Array.getElem?_eq_some_iff.1 X4).1).trans X4
              have B5 := B4.trans (hb5.mono B4.size)
              have hown := HOM.out.kept (grown_of15 B5) (by simp)
              have HB5 := Lib.hid B5
              obtain ⟨y0, y1, y2⟩ := obP_cells X5
              simp only at y0 y1 y2
              have hsc := HSC.out
              have hso := HSO.out
              clear hown5 hb5 B4 X4 X5 B5
              generalize (hasN l fun q => ovr q (px, py, pi)).length = g at *
              generalize btn S (px, py, pi) = BB at *
              cases BB
              all_goals
                simp only [Bool.not_false, Bool.not_true] at hsc hso
                go_wp2_with (at_lookup; refine wpList_lookup_own_int _ rfl _ _ 31 rfl 34 3 .i64 (Keyed.of_law ptLaw) Tryz.underlying31 Tryz.underlying3 (Tryz.zeroValue3 _) w3.heap.size S.length _ rfl hown _ _ rfl hkey.out ?_; intro cc hat _; obtain rfl := HA0.out cc hat; clear hat)
                go_roundw
                case rel => exact ⟨k + 1, by go_num, by omega, HB5⟩
                case measure => simp [intOf]; omega
            · obtain rfl : k = l.length := by omega
              have HB9 := Lib.hid (HB6.out.trans (HB7.out.mono HB6.out.size))
              go_wp2_with fail
              refine (AW.out wr).mono ?_
              rintro e w8 ⟨rfl, hb8⟩
              go_wp2_with fail
              go_ret
              exact ⟨rfl, HB9.out.trans (hb8.mono HB9.out.size)⟩
end Go.Proofs.YthpgkldpbbajfaaGreat
