/- The law StairTurned, walked. -/
import Derived.Test.YtpebefcmloablaaTrnP
import Derived.Test.YtpebefcmloablaaL15b
import Derived.Deep.CutRange
namespace Go.Proofs.Ytpebefcmloablaa
open Go.RowKit Go.Maps
attribute [local irreducible] wpQuiet
set_option linter.unusedSimpArgs false
set_option linter.unusedVariables false

/-- what a counting map answers -/
theorem cnt_at {H : Type} {D : DataW H} {L ks : List Int} (hD : IsM .u32 .i64 D (cntF L) ks) (x cc : Int) (hat : D.atKey (.int .u32 x) (.lit (.int .i64 0)) = .lit (.int .i64 cc)) : (L.count x : Int) = cc := by
  rw [(hD.2.2.2.2 x).2] at hat
  unfold cntF at hat
  by_cases hin : x ∈ L
  · rw [if_pos hin] at hat
    simpa using hat
  · rw [if_neg hin] at hat
    rw [List.count_eq_zero.2 hin]
    simpa using hat

theorem step_facts {wm wr w33 : World} {o : Obj} (hmb : wm.heap.size < wr.heap.size) (hg : (wr.alloc o).grownBy w33 (some wm.heap.size)) :
    Below wm.heap.size wr w33 ∧ wr.heap.size < w33.heap.size ∧ ∀ i, w33.cell? ⟨wr.heap.size, i, none⟩ = (wr.alloc o).cell? ⟨wr.heap.size, i, none⟩ := by
  have h1 := hg.size
  have h0 : (wr.alloc o).heap.size = wr.heap.size + 1 := by simp
  have hbk := hg.block wr.heap.size (by omega) (by intro e; injection e with e; omega)
  refine ⟨((Below.refl _ wr).alloc (by omega) o).grown hg (by omega) (fun j ej => ?_), by omega, fun i => World.cell?_of_block (a := ⟨wr.heap.size, i, none⟩) hbk⟩
  injection ej with ej
  omega

theorem below_objPt {w : World} (p : Pt) {b : Nat} (hb : b < w.heap.size) {i : Nat} {v : Value} (h : w.cell? ⟨b, i, none⟩ = some v) : (w.alloc (objPt p)).cell? ⟨b, i, none⟩ = some v :=
  (((Below.refl w.heap.size w).alloc (Nat.le_refl _) (objPt p)).cell (p := ⟨b, i, none⟩) hb).trans h

set_option maxRecDepth 100000 in
set_option maxHeartbeats 4000000 in
theorem wStairTurned (a : Option Addr) (l : List Pt) (n c : Nat) (w : World) (hn : l.length = n) (h : RdK ePt 3 w a l) (hnc : n ≤ c ∧ c ≤ maxLen) (hw : wfI l) :
    Calls Try.prog 7 #[.slice a n c] w fun e w' => e = .returned (.bool true) ∧ Below w.heap.size w w' := by
  subst hn
  have AW := Lib.hid awake15
  obtain ⟨hnc, hcm⟩ := hnc
  unfold maxLen at hcm
  have H := Lib.hid h
  have HW := Lib.hid hw
  clear h hw
  by_cases h100 : 80 < l.length
  · go_enter Try.func7, Try.ntmps7
    go_wp2_with fail
    refine (AW.out w).mono ?_
    rintro e w1 ⟨rfl, hb⟩
    go_wp2_with fail
    go_ret
    exact ⟨rfl, hb⟩
  · have C1 := Lib.hid (unlike15 a l l.length c w rfl H.out (by omega))
    rcases Bool.eq_false_or_eq_true (unl l) with hu | hu
    rotate_left
    · rw [hu] at C1
      clear hu H HW
      go_enter Try.func7, Try.ntmps7
      go_wp2_with fail
      refine C1.out.mono ?_
      rintro e w1 ⟨rfl, hb⟩
      go_wp2_with fail
      refine (AW.out w1).mono ?_
      rintro e w2 ⟨rfl, hb2⟩
      go_wp2_with fail
      go_ret
      exact ⟨rfl, hb.trans (hb2.mono hb.size)⟩
    · rw [hu] at C1
      have HU := Lib.hid hu
      clear hu
      have hlen : l.length ≤ 80 := by omega
      have hmm := @run_makeMap Try.prog
      have hut : unl (l.map turnP) = true := by rw [unl_turn]; exact HU.out
      have hwt : wfI (l.map turnP) := fun p hp => by
        obtain ⟨q, hq, rfl⟩ := List.mem_map.1 hp
        exact HW.out q hq
      have hsk := skyOf_len (l := l)
      have hskt := skyOf_len (l := l.map turnP)
      rw [List.length_map] at hskt
      have hlen2 := sky_turn_len HU.out
      have GT := Lib.hid (sky_turn_get' HU.out)
      have GO := Lib.hid (sky_turn_once HU.out)
      have O1 := Lib.hid (fun W hr => ofC l HU.out HW.out (by omega) a l.length c W rfl hr)
      have O2 := Lib.hid (fun a' c' W hr => ofC (l.map turnP) hut hwt (by simp; omega) a' l.length c' W (by simp) hr)
      have WS := Lib.hid (wfI_sky HU.out HW.out)
      have WT := Lib.hid (wfI_sky hut hwt)
      clear hut hwt HU HW
      go_enter Try.func7, Try.ntmps7
      go_wp2_with fail
      refine C1.out.mono ?_
      rintro e w1 ⟨rfl, hb1⟩
      have H1 := Lib.hid (H.out.below hb1)
      have hs1 := hb1.size
      clear H C1
      go_wp2
      go_loopw [27, 3] (fun kv v wr => ∃ k : Nat, kv = .int .i64 k ∧ k ≤ l.length ∧ Hid (wr.ownsRow w1.heap.size 33 3 v k (((l.take k).map turnP).flatMap ePt)) ∧ Below w1.heap.size w1 wr) (fun kv _ _ => l.length - (intOf kv).toNat)
      case atStart => exact ⟨0, rfl, Nat.zero_le _, World.ownsRow_nil _ _ _ _, Below.refl _ _⟩
      case round =>
        obtain ⟨k, rfl, hk, HO, hb⟩ := hrel
        by_cases hkl : k < l.length
        · obtain ⟨b, off, ea, hbl, hcs⟩ := (H1.out.below hb).get (by omega)
          have x0 := hcs k hkl 0 (by omega)
          have x1 := hcs k hkl 1 (by omega)
          have x2 := hcs k hkl 2 (by omega)
          simp only [ePt, List.getElem?_cons_zero, List.getElem?_cons_succ, Nat.add_zero] at x0 x1 x2
          have et : ((l.take (k + 1)).map turnP).flatMap ePt = ((l.take k).map turnP).flatMap ePt ++ ePt (turnP l[k]) := by
            rw [List.take_succ_eq_append_getElem hkl, List.map_append, List.flatMap_append]
            simp
          have ET := Lib.hid et
          have EA := Lib.hid ea
          clear hcs ea et
          generalize l[k] = r at *
          obtain ⟨rx, ry, ri⟩ := r
          simp only at x0 x1 x2
          have hkl2 : (k : Int) < (l.length : Int) := by omega
          obtain rfl := EA.out
          clear EA
          have rs := objPt_cells wr (rx, ry, ri) _ rfl
          simp only [objPt] at rs
          obtain ⟨r0, r1, r2⟩ := rs
          have hbs := hb.size
          have hw1s : w1.heap.size ≤ wr.heap.size := hbs
          have hownA := HO.out.alloc (.cells #[.int .i64 rx, .int .i64 ry, .int .u32 ri] 33)
          have BA : Below w1.heap.size w1 (wr.alloc (.cells #[.int .i64 rx, .int .i64 ry, .int .u32 ri] 33)) := hb.alloc hbs _
          go_wp2_with (at_builtin; refine wp_append1 elPoint w1.heap.size hownA [.int .i64 ry, .int .i64 rx, .int .u32 ri] rfl (by simp [Value.oneCell']) rfl _ _ rfl rfl _ (by show Value.slice (some ⟨wr.heap.size + 1, 0, none⟩) 1 1 = _; simp) (by unfold maxLen; omega) (by omega) (by simp; omega) ?_; intro v' w6 hown' hg)
          have b6 := below_grown BA hownA hg (by simp; omega) (Nat.le_refl _)
          have HO6 : Hid (w6.ownsRow w1.heap.size 33 3 v' (k + 1) (((l.take (k + 1)).map turnP).flatMap ePt)) := by
            show w6.ownsRow _ _ _ _ _ _
            rw [ET.out]
            exact hown'
          clear hown' hg hownA HO BA hb r0 r1 r2 x0 x1 x2
          go_wp2
          go_roundw
          case rel => exact ⟨k + 1, by go_num, by omega, HO6, b6⟩
          case measure => simp [intOf]; omega
        · obtain rfl : k = l.length := by omega
          rw [List.take_length] at HO
          obtain ⟨a3, c3, rfl, -, -, hr3⟩ := RdK.of_owns (l := l.map turnP) (enc := ePt) ePt_len (by decide) HO.out
          have R3 := Lib.hid hr3
          have HML : Hid ((l.map turnP).length = l.length) := by show _ = _; simp
          have H3 := Lib.hid (H1.out.below hb)
          have B3 := hb1.trans (hb.mono hs1)
          clear hr3 HO hb H1 hb1 hs1
          go_wp2_with fail
          refine (O1.out wr H3.out).mono ?_
          rintro e w4 ⟨a4, c4, rfl, hc4, R4, hb4⟩
          have B4 := B3.trans (hb4.mono B3.size)
          have R34 := Lib.hid (R3.out.below hb4)
          go_wp2_with fail
          refine (O2.out a3 c3 w4 R34.out).mono ?_
          rintro e w5 ⟨a5, c5, rfl, hc5, R5, hb5⟩
          have B5 := B4.trans (hb5.mono B4.size)
          have R45 := Lib.hid (R4.out.below hb5)
          clear R34 R4 R3 B3 B4 hb4 hb5 H3 O1 O2 hc4 hc5 HML
          generalize skyOf (l.map turnP) = T at *
          generalize skyOf l = S at *
          have dne : ((S.length : Int) != (T.length : Int)) = false := by simp [hlen2]
          have hs5 := B5.size
          go_wp2
          go_loopw [68] (fun kv wr => ∃ k : Nat, kv = .int .i64 k ∧ k ≤ S.length ∧ w5.heap.size < wr.heap.size ∧ Below w5.heap.size w5 wr ∧ Hid (∃ (D : DataW Unit) (ks : List Int), wr.ownsMap Try.prog 31 (plainElem Try.prog 3) w5.heap.size k D ∧ IsM .u32 .i64 D (cntF ((ids S).take k)) ks)) (fun kv _ => S.length - (intOf kv).toNat)
          case atStart => exact ⟨0, rfl, Nat.zero_le _, by simp, (Below.refl _ _).alloc (Nat.le_refl _) _, ⟨.map [], [], World.ownsMap_made _ _ _ _, by rw [List.take_zero, cntF_nil]; exact IsM.empty _ _⟩⟩
          case round =>
            obtain ⟨k, rfl, hk, hmb, hb, HM⟩ := hrel
            by_cases hkl : k < S.length
            · have R6 := R45.out.below hb
              have R7 := R5.out.below hb
              obtain ⟨b, off, ea, hbl, hcs⟩ := R6.get (by omega)
              have x0 := hcs k hkl 0 (by omega)
              have x1 := hcs k hkl 1 (by omega)
              have x2 := hcs k hkl 2 (by omega)
              obtain ⟨jj, hjj⟩ : ∃ jj, k + jj + 1 = S.length := ⟨S.length - 1 - k, by omega⟩
              have hjl : jj < T.length := by omega
              obtain ⟨b', off', ea', hbl', hcs'⟩ := R7.get (by omega)
              have y0 := hcs' jj hjl 0 (by omega)
              have y1 := hcs' jj hjl 1 (by omega)
              have y2 := hcs' jj hjl 2 (by omega)
              simp only [ePt, List.getElem?_cons_zero, List.getElem?_cons_succ, Nat.add_zero] at x0 x1 x2 y0 y1 y2
              have hgt := GT.out k jj hjj hkl hjl
              have hki : k < (ids S).length := by simpa [ids] using hkl
              have hie : (ids S)[k] = S[k].2.2 := by simp [ids]
              have et : (ids S).take (k + 1) = (ids S).take k ++ [S[k].2.2] := by rw [List.take_succ_eq_append_getElem hki, hie]
              have hkey : Hid (keyOf Try.prog 31 (.int .u32 S[k].2.2) = some (.int .u32 S[k].2.2)) := keyOf_int_mk Try.underlying31 (WS.out _ (List.getElem_mem _))
              obtain ⟨D, ks, hown0, hD⟩ := HM.out
              have hcnt : List.count S[k].2.2 ((ids S).take k) ≤ k := by
                have := List.count_le_length (a := S[k].2.2) (l := (ids S).take k)
                simp at this; omega
              have hat0 : ∀ cc : Int, D.atKey (.int .u32 S[k].2.2) (.lit (.int .i64 0)) = .lit (.int .i64 cc) → cc = (List.count S[k].2.2 ((ids S).take k) : Nat) := fun cc hcc => (cnt_at hD _ cc hcc).symm
              have HD2 := hD.put S[k].2.2 ((List.count S[k].2.2 ((ids S).take k) : Nat) + 1)
              rw [← cntF_snoc, ← et] at HD2
              have HD := Lib.hid HD2
              have hS1 := hb.size
              have HA0 := Lib.hid hat0
              have EA := Lib.hid ea
              have EA' := Lib.hid ea'
              clear HM et hcs hcs' HD2 hD hat0 hki hie ea ea' R6 R7
              have e9 : ((S.length : Int) - 1 - (k : Int)) = (jj : Int) := by omega
              have hjl2 : (jj : Int) < (T.length : Int) := by omega
              have hjl4 : (jj : Int) < (S.length : Int) := by omega
              generalize T[jj] = q at *
              generalize List.count S[k].2.2 ((ids S).take k) = cn at *
              generalize S[k] = p at *
              obtain ⟨px, py, pi⟩ := p
              obtain ⟨qx, qy, qi⟩ := q
              simp only at x0 x1 x2 y0 y1 y2 hgt hkey HA0 HD
              obtain ⟨rfl, rfl⟩ := hgt
              obtain rfl := EA.out
              obtain rfl := EA'.out
              clear EA EA'
              have hkl2 : (k : Int) < (S.length : Int) := by omega
              have hjl3 : (0 : Int) ≤ (jj : Int) := by omega
              have V1 : IntKind.i64.wrap ((S.length : Int) - 1 - (k : Int)) = (jj : Int) := by rw [e9]; exact IntWalk.i64_in _ (by omega)
              have hown := hown0.kept (World.grownBy_alloc wr (.cells #[.int .i64 px, .int .i64 py, .int .u32 pi] 33) none) (by simp)
              have rs := objPt_cells wr (px, py, pi) _ rfl
              simp only [objPt] at rs
              obtain ⟨r0, r1, r2⟩ := rs
              have BA : Below wr.heap.size wr (wr.alloc (.cells #[.int .i64 px, .int .i64 py, .int .u32 pi] 33)) := (Below.refl _ _).alloc (Nat.le_refl _) _
              have HLN := Lib.hid hlen2
              have HJJ := Lib.hid hjj
              have kb1 := World.block_lt_of_cell? wr _ y0
              have hsb : w5.heap.size ≤ wr.heap.size := hS1
              have hb'5 : b' < w5.heap.size := by
                obtain ⟨b9, off9, e9, h9, -⟩ := R5.out.get (by omega)
                injection e9 with e9
                injection e9 with e9 _ _
                rw [e9]; exact h9
              clear hlen2 hjj e9 GT GO
              go_wp2_with (first | (at_lookup; refine wpList_lookup_own_int _ rfl _ _ 43 rfl 31 3 .i64 (int_keyed Try.underlying31) Try.underlying43 Try.underlying3 (Try.zeroValue3 _) w5.heap.size k _ rfl hown _ _ rfl hkey.out ?_; intro cc hat _; obtain rfl := HA0.out cc hat; clear hat) | (at_mapUpdate; refine wpList_mapUpdate_own _ rfl _ _ _ 43 rfl 31 3 (int_keyed Try.underlying31) Try.underlying43 _ w5.heap.size k _ rfl hown (by unfold maxLen; omega) _ _ _ rfl rfl hkey.out _ [] (plainElem_int Try.underlying3 (by simp [Lit.wf, IntKind.min, IntKind.max, IntKind.bits, IntKind.signed]; omega)) ?_; intro w33 hown3 hgrow3; obtain ⟨B3, hg34, hcp⟩ := step_facts hmb hgrow3; have y0' := (B3.cell (p := ⟨b', off' + jj * 3, none⟩) hb'5).trans y0; have y1' := (B3.cell (p := ⟨b', off' + jj * 3 + 1, none⟩) hb'5).trans y1; have y2' := (B3.cell (p := ⟨b', off' + jj * 3 + 2, none⟩) hb'5).trans y2; have r0' := (hcp 0).trans r0; have r1' := (hcp 1).trans r1; have r0q := below_objPt (py, px, qi) hg34 r0'; have r1q := below_objPt (py, px, qi) hg34 r1'; have qs := objPt_cells w33 (py, px, qi) _ rfl; simp only [objPt] at qs r0q r1q; obtain ⟨q0, q1, q2⟩ := qs; clear r0 r1 r2 y0 y1 y2 x0 x1 x2))
              have HO3 : Hid (∃ (D : DataW Unit) (ks : List Int), (w33.alloc (.cells #[.int .i64 py, .int .i64 px, .int .u32 qi] 33)).ownsMap Try.prog 31 (plainElem Try.prog 3) w5.heap.size (k + 1) D ∧ IsM .u32 .i64 D (cntF ((ids S).take (k + 1))) ks) := ⟨_, _, hown3.kept (World.grownBy_alloc w33 _ none) (by simp), HD.out⟩
              have BE : Below w5.heap.size w5 (w33.alloc (.cells #[.int .i64 py, .int .i64 px, .int .u32 qi] 33)) := (hb.trans B3).alloc (by omega) _
              have hk1 : k + 1 ≤ S.length := by omega
              clear hown3 hgrow3 hown hown0 HD HA0 hcp r0' r1' r0q r1q q0 q1 q2 y0' y1' y2' B3
              go_roundw
              case rel => exact ⟨k + 1, by go_num, hk1, by simp; omega, BE, HO3⟩
              case measure => simp [intOf]; omega
            · obtain rfl : k = S.length := by omega
              have B6 := B5.trans (hb.mono hs5)
              have hs6 := B6.size
              rw [List.take_of_length_le (by simp [ids])] at HM
              obtain ⟨D, ks, hownM, hD⟩ := HM.out
              have HIM := Lib.hid hD
              have HOM := Lib.hid hownM
              have R6 := Lib.hid (R5.out.below hb)
              obtain ⟨wo, ewo⟩ : ∃ wo : World, wo = wr := ⟨_, rfl⟩
              subst ewo
              clear HM hD hownM
              go_wp2
              go_loopw [101] (fun kv wr => ∃ k : Nat, kv = .int .i64 k ∧ k ≤ T.length ∧ Below wo.heap.size wo wr) (fun kv _ => T.length - (intOf kv).toNat)
              case atStart => exact ⟨0, rfl, Nat.zero_le _, Below.refl _ _⟩
              case round =>
                obtain ⟨k, rfl, hk, hb7⟩ := hrel
                by_cases hkl : k < T.length
                · have R7 := R6.out.below hb7
                  obtain ⟨b, off, ea, hbl, hcs⟩ := R7.get (by omega)
                  have x0 := hcs k hkl 0 (by omega)
                  have x1 := hcs k hkl 1 (by omega)
                  have x2 := hcs k hkl 2 (by omega)
                  simp only [ePt, List.getElem?_cons_zero, List.getElem?_cons_succ, Nat.add_zero] at x0 x1 x2
                  have hkey : Hid (keyOf Try.prog 31 (.int .u32 T[k].2.2) = some (.int .u32 T[k].2.2)) := keyOf_int_mk Try.underlying31 (WT.out _ (List.getElem_mem _))
                  have hone := GO.out T[k] (List.getElem_mem _)
                  have HA0 : Hid (∀ cc : Int, D.atKey (.int .u32 T[k].2.2) (.lit (.int .i64 0)) = .lit (.int .i64 cc) → cc = 1) := fun cc hcc => by
                    have := cnt_at HIM.out _ cc hcc
                    rw [hone] at this
                    exact this.symm
                  have EA := Lib.hid ea
                  have hS1 := hb7.size
                  clear hcs ea hone R7
                  generalize T[k] = q at *
                  obtain ⟨qx, qy, qi⟩ := q
                  simp only at x0 x1 x2 hkey HA0
                  obtain rfl := EA.out
                  clear EA
                  have hkl2 : (k : Int) < (T.length : Int) := by omega
                  have hkl3 : (k : Int) < (S.length : Int) := by omega
                  have hown0 := HOM.out.kept (below_asGrown hb7) (by simp)
                  have hown := hown0.kept (World.grownBy_alloc wr (.cells #[.int .i64 qx, .int .i64 qy, .int .u32 qi] 33) none) (by simp)
                  have rs := objPt_cells wr (qx, qy, qi) _ rfl
                  simp only [objPt] at rs
                  obtain ⟨r0, r1, r2⟩ := rs
                  have BE : Below wo.heap.size wo (wr.alloc (.cells #[.int .i64 qx, .int .i64 qy, .int .u32 qi] 33)) := hb7.alloc hS1 _
                  go_wp2_with (at_lookup; refine wpList_lookup_own_int _ rfl _ _ 43 rfl 31 3 .i64 (int_keyed Try.underlying31) Try.underlying43 Try.underlying3 (Try.zeroValue3 _) w5.heap.size S.length _ rfl hown _ _ rfl hkey.out ?_; intro cc hat _; obtain rfl := HA0.out cc hat; clear hat)
                  go_roundw
                  case rel => exact ⟨k + 1, by go_num, by omega, BE⟩
                  case measure => simp [intOf]; omega
                · have B7 := B6.trans (hb7.mono hs6)
                  go_wp2_with fail
                  refine (AW.out wr).mono ?_
                  rintro e w8 ⟨rfl, hb8⟩
                  go_wp2_with fail
                  go_ret
                  exact ⟨rfl, B7.trans (hb8.mono B7.size)⟩

end Go.Proofs.Ytpebefcmloablaa
