/- The law StairCovers, walked. -/
import Derived.Test.YtpebefcmloablaaL15u
import Derived.Test.YtpebefcmloablaaMapP
import Derived.Test.YtpebefcmloablaaL15b
import Derived.Deep.CutRange
namespace Go.Proofs.Ytpebefcmloablaa
open Go.RowKit Go.Maps
attribute [local irreducible] wpQuiet
set_option linter.unusedSimpArgs false
set_option linter.unusedVariables false

theorem sky_count {l : List Pt} (hu : unl l = true) {p : Pt} (hp : p ∈ l) : (((skyOf l).count p : Int) == 1) = !btn (skyOf l) p := by
  have hS := skyOf_is ((unl_iff l).1 hu)
  have hn := nodup_of_unl (unl_sky hu)
  have hm : p ∈ skyOf l ↔ btn (skyOf l) p = false := by rw [hS.2 p, btn_sky hS]; exact ⟨fun h => h.2, fun h => ⟨hp, h⟩⟩
  cases hb : btn (skyOf l) p
  · have h1 := List.one_le_count_iff.2 (hm.2 hb)
    have h2 := List.nodup_iff_count.1 hn p
    have h3 : (skyOf l).count p = 1 := by omega
    rw [h3]; rfl
  · have h1 : p ∉ skyOf l := fun h => by rw [hm.1 h] at hb; cases hb
    rw [List.count_eq_zero.2 h1]; rfl

theorem sky_many {l : List Pt} (hu : unl l = true) : l.countP (fun p => !btn (skyOf l) p) = (skyOf l).length := by
  have hS := skyOf_is ((unl_iff l).1 hu)
  rw [List.countP_eq_length_filter]
  have h1 : (l.filter fun p => !btn (skyOf l) p).Nodup := (nodup_of_unl hu).sublist List.filter_sublist
  refine ((List.perm_ext_iff_of_nodup h1 (nodup_of_unl (unl_sky hu))).2 fun p => ?_).length_eq
  rw [List.mem_filter, hS.2 p, btn_sky hS]
  simp

set_option maxRecDepth 100000 in
set_option maxHeartbeats 4000000 in
theorem wStairCovers (a : Option Addr) (l : List Pt) (n c : Nat) (w : World) (hn : l.length = n) (h : RdK ePt 3 w a l) (hnc : n ≤ c ∧ c ≤ maxLen) (hw : wfI l) (hwp : ∀ p ∈ l, wfP p) :
    Calls Try.prog 4 #[.slice a n c] w fun e w' => e = .returned (.bool true) ∧ Below w.heap.size w w' := by
  subst hn
  have AW := Lib.hid awake15
  obtain ⟨hnc, hcm⟩ := hnc
  unfold maxLen at hcm
  have H := Lib.hid h
  have HW := Lib.hid hw
  clear h hw
  by_cases h100 : 100 < l.length
  · go_enter Try.func4, Try.ntmps4
    go_wp2_with fail
    refine (AW.out w).mono ?_
    rintro e w1 ⟨rfl, hb⟩
    go_wp2_with fail
    go_ret
    exact ⟨rfl, hb⟩
  · have C1 := Lib.hid (unlike15 a l l.length c w rfl H.out (by omega))
    rcases Bool.eq_false_or_eq_true (unl l) with hu | hu
    rotate_left
    · rw [hu] at C1
      clear hu H HW
      go_enter Try.func4, Try.ntmps4
      go_wp2_with fail
      refine C1.out.mono ?_
      rintro e w1 ⟨rfl, hb⟩
      go_wp2_with fail
      refine (AW.out w1).mono ?_
      rintro e w2 ⟨rfl, hb2⟩
      go_wp2_with fail
      go_ret
      exact ⟨rfl, hb.trans (hb2.mono hb.size)⟩
    · rw [hu] at C1
      have HU := Lib.hid hu
      clear hu
      have hlen : l.length ≤ 100 := by omega
      have hmm := @run_makeMap Try.prog
      have hsk := skyOf_len (l := l)
      have HWS : Hid (∀ p ∈ skyOf l, wfP p) := fun p hp => hwp p (sky_sub HU.out hp)
      have HWL := Lib.hid hwp
      have O1 := Lib.hid (fun W hr => ofC l HU.out HW.out (by omega) a l.length c W rfl hr)
      have hRS := rightF_sky HU.out
      have G1 := Lib.hid (fun x cx W hr => (right_calls x (skyOf l) (skyOf l).length cx W rfl hr (by omega) (wfI_sky HU.out HW.out)))
      rw [hRS] at G1
      have SC : Hid (∀ p ∈ l, (((skyOf l).count p : Int) == 1) = !btn (skyOf l) p) := fun p hp => sky_count HU.out hp
      have SMY := Lib.hid (sky_many HU.out)
      have HT : Hid (∀ p k (hk : k < (skyOf l).length), btn ((skyOf l).take (k + 1)) p = (btn ((skyOf l).take k) p || ovr (skyOf l)[k] p)) := fun p k hk => btn_take_succ _ _ hk
      clear hwp HU HW hRS
      generalize skyOf l = S at *
      go_enter Try.func4, Try.ntmps4
      go_wp2_with fail
      refine C1.out.mono ?_
      rintro e w1 ⟨rfl, hb1⟩
      have H1 := Lib.hid (H.out.below hb1)
      clear H C1
      go_wp2_with fail
      refine (O1.out w1 H1.out).mono ?_
      rintro e w2 ⟨a2, c2, rfl, hc2, R2, hb2⟩
      have B2 := hb1.trans (hb2.mono hb1.size)
      have H2 := Lib.hid (H1.out.below hb2)
      go_wp2_with fail
      refine (G1.out a2 c2 w2 R2.out).mono ?_
      rintro e w3 ⟨rfl, hb3⟩
      have B3 := B2.trans (hb3.mono B2.size)
      have H3 := Lib.hid (H2.out.below hb3)
      have R3 := Lib.hid (R2.out.below hb3)
      have hs3 := B3.size
      clear H1 H2 R2 hb1 hb2 hb3 B2 O1 G1
      go_wp2
      go_loopw [38] (fun kv wr => ∃ k : Nat, kv = .int .i64 k ∧ k ≤ S.length ∧ w3.heap.size < wr.heap.size ∧ Below w3.heap.size w3 wr ∧ Hid (∃ (D : DataW Unit), wr.ownsMap Try.prog 33 (plainElem Try.prog 3) w3.heap.size k D ∧ IsC D (S.take k))) (fun kv _ => S.length - (intOf kv).toNat)
      case atStart => exact ⟨0, rfl, Nat.zero_le _, by simp, (Below.refl _ _).alloc (Nat.le_refl _) _, ⟨.map [], World.ownsMap_made _ _ _ _, IsC.empty⟩⟩
      case round =>
        obtain ⟨k, rfl, hk, hmb, hb, HM⟩ := hrel
        by_cases hkl : k < S.length
        · obtain ⟨b, off, ea, hbl, hcs⟩ := (R3.out.below hb).get (by omega)
          have x0 := hcs k hkl 0 (by omega)
          have x1 := hcs k hkl 1 (by omega)
          have x2 := hcs k hkl 2 (by omega)
          simp only [ePt, List.getElem?_cons_zero, List.getElem?_cons_succ, Nat.add_zero] at x0 x1 x2
          obtain ⟨D, hown0, hD⟩ := HM.out
          have hwk := HWS.out S[k] (List.getElem_mem _)
          have et : S.take (k + 1) = S.take k ++ [S[k]] := List.take_succ_eq_append_getElem hkl
          have hcnt : List.count S[k] (S.take k) ≤ k := by
            have := List.count_le_length (a := S[k]) (l := S.take k)
            simp at this; omega
          have HD2 := hD.put hwk
          rw [← et] at HD2
          have hat := hD.at0 hwk
          have hkey := kp_key hwk
          have HD := Lib.hid HD2
          have EA := Lib.hid ea
          clear HM et hcs HD2 hD ea hwk
          generalize List.count S[k] (S.take k) = cn at *
          generalize S[k] = p at *
          obtain ⟨px, py, pi⟩ := p
          simp only at x0 x1 x2 hkey hat HD
          obtain rfl := EA.out
          clear EA
          have hkl2 : (k : Int) < (S.length : Int) := by omega
          have hownW := (hown0.alloc (.cells #[.int .i64 px, .int .i64 py, .int .u32 pi] 33)).drew
          have rs := objPt_cells wr (px, py, pi) _ rfl
          simp only [objPt] at rs
          obtain ⟨r0, r1, r2⟩ := rs
          obtain ⟨v0, st, W1, W2, e1, e2, e3, e4, hown2, hg2, hg1⟩ := bump_runs ptLaw Try.underlying39 Try.underlying3 (fun u => Try.zeroValue3 u) hownW (by unfold maxLen; omega) hkey hat (by simp [Lit.wf, IntKind.min, IntKind.max, IntKind.bits, IntKind.signed]; omega)
          simp only [vPt] at e1 e2 e3
          go_wp2
          go_region
          all_goals
            obtain ⟨B3', hg34, -⟩ := step_facts (o := .cells #[.int .i64 px, .int .i64 py, .int .u32 pi] 33) (wm := w3) (w33 := W2) hmb ⟨hg2.os, hg2.tape, hg2.output, hg2.size, hg2.block⟩
            have HO3 : Hid (∃ (D : DataW Unit), W2.ownsMap Try.prog 33 (plainElem Try.prog 3) w3.heap.size (k + 1) D ∧ IsC D (S.take (k + 1))) := ⟨_, hown2, HD.out⟩
            have hm2 : w3.heap.size < W2.heap.size := by omega
            have BE := hb.trans B3'
            clear hown2 hg2 hg1 HD e1 e2 e3 e4 r0 r1 r2 x0 x1 x2 B3' hown0 hownW
            go_wp2
            go_roundw
            case rel => exact ⟨k + 1, by go_num, by omega, hm2, BE, HO3⟩
            case measure => simp [intOf]; omega
        · obtain rfl : k = S.length := by omega
          rw [List.take_length] at HM
          obtain ⟨D, hownM, hD⟩ := HM.out
          have HIM := Lib.hid hD
          have HOM := Lib.hid hownM
          have R6 := Lib.hid (R3.out.below hb)
          have H6 := Lib.hid (H3.out.below hb)
          have B6 := B3.trans (hb.mono hs3)
          have hs6 := B6.size
          obtain ⟨wo, ewo⟩ : ∃ wo : World, wo = wr := ⟨_, rfl⟩
          subst ewo
          have hmo : w3.heap.size < wo.heap.size := hmb
          have HCP : Hid (∀ k (hk : k < l.length), (l.take (k + 1)).countP (fun p => !btn S p) = (l.take k).countP (fun p => !btn S p) + if btn S l[k] = true then 0 else 1) := fun k hk => by
            rw [List.take_succ_eq_append_getElem hk, List.countP_append, List.countP_singleton]
            cases btn S l[k] <;> rfl
          have HCL : Hid (∀ k, (l.take k).countP (fun p => !btn S p) ≤ 100) := fun k => by
            have h1 := List.countP_le_length (p := fun p => !btn S p) (l := l.take k)
            rw [List.length_take] at h1
            omega
          have HF : Hid ((l.take l.length).countP (fun p => !btn S p) = S.length) := by show _ = _; rw [List.take_length]; exact SMY.out
          clear HM hD hownM hb hmb SMY R3 H3 HWS B3
          go_wp2
          go_loopw [51, 8] (fun kv mv wr => ∃ k : Nat, kv = .int .i64 k ∧ k ≤ l.length ∧ mv = .int .i64 ((l.take k).countP (fun p => !btn S p) : Nat) ∧ Below wo.heap.size wo wr) (fun kv _ _ => l.length - (intOf kv).toNat)
          case atStart => exact ⟨0, rfl, Nat.zero_le _, rfl, Below.refl _ _⟩
          case round =>
            obtain ⟨k, rfl, hk, rfl, hb7⟩ := hrel
            by_cases hkl : k < l.length
            · obtain ⟨b, off, ea, hbl, hcs⟩ := (H6.out.below hb7).get (by omega)
              have x0 := hcs k hkl 0 (by omega)
              have x1 := hcs k hkl 1 (by omega)
              have x2 := hcs k hkl 2 (by omega)
              simp only [ePt, List.getElem?_cons_zero, List.getElem?_cons_succ, Nat.add_zero] at x0 x1 x2
              have hmem : l[k] ∈ l := List.getElem_mem hkl
              have hwk := HWL.out _ hmem
              have hsc := SC.out _ hmem
              have hcp := HCP.out k hkl
              have hcl := HCL.out (k + 1)
              have hkey := Lib.hid (kp_key hwk)
              have HA0 : Hid (∀ cc : Int, D.atKey (kp l[k]) (.lit (.int .i64 0)) = .lit (.int .i64 cc) → cc = (S.count l[k] : Nat)) := fun cc hcc => by
                have := HIM.out.at0 hwk
                rw [this] at hcc
                simpa using hcc.symm
              have HTK : Hid (∀ j (hj : j < S.length), btn (S.take (j + 1)) l[k] = (btn (S.take j) l[k] || ovr S[j] l[k])) := fun j hj => HT.out _ j hj
              have HTE : Hid (btn (S.take S.length) l[k] = btn S l[k]) := by show _ = _; rw [List.take_length]
              have HTZ : Hid (btn (S.take 0) l[k] = false) := by simp [Hid, btn]
              have OVK := Lib.hid (fun q W => over_below q l[k] W)
              have EA := Lib.hid ea
              have hs7 := hb7.size
              clear hcs ea hmem hwk
              generalize (l.take k).countP (fun p => !btn S p) = m1 at *
              generalize S.count l[k] = cn at *
              generalize l[k] = p at *
              obtain ⟨px, py, pi⟩ := p
              simp only at x0 x1 x2 hkey
              obtain rfl := EA.out
              clear EA
              generalize btn S (px, py, pi) = BB at *
              have hkl2 : (k : Int) < (l.length : Int) := by omega
              have rs := objPt_cells wr (px, py, pi) _ rfl
              simp only [objPt] at rs
              obtain ⟨wp, hwp⟩ : ∃ wp, wp = wr.alloc (.cells #[.int .i64 px, .int .i64 py, .int .u32 pi] 33) := ⟨_, rfl⟩
              have BP : Below wo.heap.size wo wp := by rw [hwp]; exact hb7.alloc hs7 _
              have hpb : wr.heap.size < wp.heap.size := by rw [hwp]; simp
              rw [← hwp] at rs
              obtain ⟨r0, r1, r2⟩ := rs
              have RC : Hid (∀ W, Below wp.heap.size wp W → W.cell? ⟨wr.heap.size, 0, none⟩ = some (.int .i64 px) ∧ W.cell? ⟨wr.heap.size, 1, none⟩ = some (.int .i64 py) ∧ W.cell? ⟨wr.heap.size, 2, none⟩ = some (.int .u32 pi)) := fun W hW =>
                ⟨(hW.cell (p := ⟨wr.heap.size, 0, none⟩) hpb).trans r0, (hW.cell (p := ⟨wr.heap.size, 1, none⟩) hpb).trans r1, (hW.cell (p := ⟨wr.heap.size, 2, none⟩) hpb).trans r2⟩
              clear r0 r1 r2
              have HSC := Lib.hid hsc
              have HCC := Lib.hid hcp
              clear hsc hcp
              have hs8 := BP.size
              go_wp2
              rw [← hwp]
              go_loopw [57, 11] (fun jv bv wq => ∃ j : Nat, jv = .int .i64 j ∧ j ≤ S.length ∧ bv = .bool (btn (S.take j) (px, py, pi)) ∧ Below wp.heap.size wp wq) (fun jv _ _ => S.length - (intOf jv).toNat)
              case atStart => exact ⟨0, rfl, Nat.zero_le _, by rw [HTZ.out], Below.refl _ _⟩
              case round =>
                clear x0 x1 x2
                obtain ⟨j, rfl, hj, rfl, hb8⟩ := hrel
                by_cases hjl : j < S.length
                · have BK := Lib.hid (HTK.out j hjl)
                  obtain ⟨b, off, ea, hbl, hcs⟩ := (R6.out.below (BP.trans (hb8.mono hs8))).get (by omega)
                  have x0 := hcs j hjl 0 (by omega)
                  have x1 := hcs j hjl 1 (by omega)
                  have x2 := hcs j hjl 2 (by omega)
                  simp only [ePt, List.getElem?_cons_zero, List.getElem?_cons_succ, Nat.add_zero] at x0 x1 x2
                  have OV := OVK.out S[j]
                  have EA := Lib.hid ea
                  clear hcs ea
                  generalize S[j] = q at *
                  obtain ⟨qx, qy, qi⟩ := q
                  simp only at x0 x1 x2
                  obtain rfl := EA.out
                  clear EA
                  have hjl2 : (j : Int) < (S.length : Int) := by omega
                  have qs := objPt_cells wr (qx, qy, qi) _ rfl
                  simp only [objPt] at qs
                  obtain ⟨q0, q1, q2⟩ := qs
                  have hs9 := hb8.size
                  have BQ : Below wp.heap.size wp (wr.alloc (.cells #[.int .i64 qx, .int .i64 qy, .int .u32 qi] 33)) := hb8.alloc hs9 _
                  obtain ⟨r0, r1, r2⟩ := RC.out _ BQ
                  have hsq : wr.heap.size ≤ (wr.alloc (.cells #[.int .i64 qx, .int .i64 qy, .int .u32 qi] 33)).heap.size := by simp
                  generalize hbt : btn (S.take j) (px, py, pi) = be at *
                  clear hbt
                  cases be
                  · simp only [Bool.false_or] at BK
                    go_wp2_with fail
                    refine (OV _).mono ?_
                    rintro e w9 ⟨rfl, hb9⟩
                    have B9 := BQ.trans (hb9.mono BQ.size)
                    clear r0 r1 r2 q0 q1 q2 x0 x1 x2
                    go_wp2
                    go_roundw
                    case rel => exact ⟨j + 1, by go_num, by omega, by rw [BK.out], B9⟩
                    case measure => simp [intOf]; omega
                  · simp only [Bool.true_or] at BK
                    clear r0 r1 r2
                    go_wp2
                    go_roundw
                    case rel => exact ⟨j + 1, by go_num, by omega, by rw [BK.out], BQ⟩
                    case measure => simp [intOf]; omega
                · obtain rfl : j = S.length := by omega
                  rw [HTE.out]
                  have B9 := BP.trans (hb8.mono hs8)
                  obtain ⟨r0, r1, r2⟩ := RC.out _ hb8
                  have hown := HOM.out.kept (below_asGrown B9) (by simp)
                  have hsc := HSC.out
                  have hcp := HCC.out
                  cases BB
                  · simp only [Bool.not_false] at hsc
                    rw [if_neg (by decide)] at hcp
                    go_wp2_with (at_lookup; refine wpList_lookup_own_int _ rfl _ _ 39 rfl 33 3 .i64 (Keyed.of_law ptLaw) Try.underlying39 Try.underlying3 (Try.zeroValue3 _) w3.heap.size S.length _ rfl hown _ _ rfl hkey.out ?_; intro cc hat _; obtain rfl := HA0.out cc hat; clear hat)
                    go_roundw
                    case rel => exact ⟨k + 1, by go_num, by omega, by rw [hcp]; go_num, B9⟩
                    case measure => simp [intOf]; omega
                  · simp only [Bool.not_true] at hsc
                    rw [if_pos rfl] at hcp
                    go_wp2_with (at_lookup; refine wpList_lookup_own_int _ rfl _ _ 39 rfl 33 3 .i64 (Keyed.of_law ptLaw) Try.underlying39 Try.underlying3 (Try.zeroValue3 _) w3.heap.size S.length _ rfl hown _ _ rfl hkey.out ?_; intro cc hat _; obtain rfl := HA0.out cc hat; clear hat)
                    go_roundw
                    case rel => exact ⟨k + 1, by go_num, by omega, by rw [hcp]; go_num, B9⟩
                    case measure => simp [intOf]; omega
            · obtain rfl : k = l.length := by omega
              rw [HF.out]
              have B7 := B6.trans (hb7.mono hs6)
              have dq : ((S.length : Int) == (S.length : Int)) = true := by simp
              go_wp2_with fail
              refine (AW.out wr).mono ?_
              rintro e w8 ⟨rfl, hb8⟩
              go_wp2_with fail
              go_ret
              exact ⟨rfl, B7.trans (hb8.mono B7.size)⟩

end Go.Proofs.Ytpebefcmloablaa
