/- The law CornerFour, walked. -/
import Derived.Test.YthplgcakhniidaaGreatL12w
import Derived.Test.YthplgcakhniidaaGreatL12k
import Derived.Test.YthplgcakhniidaaGreatWkP
import Derived.Test.YthplgcakhniidaaGreatQ5
namespace Go.Proofs.YthplgcakhniidaaGreat
open Go.RowKit Go.Maps
attribute [local irreducible] wpQuiet
set_option linter.unusedSimpArgs false
set_option linter.unusedVariables false

/-- what a counting map answers -/
theorem cnt_at4 {H : Type} {D : DataW H} {L ks : List Int} (hD : IsM .u32 .i64 D (cntF L) ks) (x cc : Int) (hat : D.atKey (.int .u32 x) (.lit (.int .i64 0)) = .lit (.int .i64 cc)) : (L.count x : Int) = cc := by
  rw [(hD.2.2.2.2 x).2] at hat
  unfold cntF at hat
  by_cases hin : x ∈ L
  · rw [if_pos hin] at hat
    simpa using hat
  · rw [if_neg hin] at hat
    rw [List.count_eq_zero.2 hin]
    simpa using hat
/-- what the first of the four corners have -/
def fourT (l : List Pt) (x y : Int) (n : Nat) : List Int := (List.range n).flatMap fun v => fourL l x y v
theorem fourT_more (l : List Pt) (x y : Int) (n : Nat) : fourT l x y (n + 1) = fourT l x y n ++ fourL l x y n := by
  unfold fourT; rw [List.range_succ, List.flatMap_append]; simp
theorem fourT_all (l : List Pt) (x y : Int) : (fourT l x y 4).Perm (ids l) := by
  have := four_perm l x y
  rw [fourT_more, fourT_more, fourT_more, fourT_more]
  have e : fourT l x y 0 = [] := rfl
  rw [e, List.nil_append]
  exact this
theorem fourT_len (l : List Pt) (x y : Int) : ∀ n, (fourT l x y n).length ≤ n * l.length
  | 0 => Nat.zero_le _
  | n + 1 => by
    have h := fourT_len l x y n
    have h2 := hasN_few l (crnF (x + (n % 2 : Nat)) (y + (n / 2 : Nat)) (n % 2 == 1) (n / 2 == 1))
    rw [fourT_more, List.length_append, Nat.succ_mul]
    unfold fourL
    omega
theorem four_way {n : Nat} (h : n < 4) : (n : Int) = (if (n % 2 == 1) then 1 else 0) + (if (n / 2 == 1) then 2 else 0) := by
  rcases (show n = 0 ∨ n = 1 ∨ n = 2 ∨ n = 3 by omega) with rfl | rfl | rfl | rfl <;> rfl
theorem fourL_wf {l : List Pt} (hw : wfN l) (x y : Int) (n : Nat) : ∀ k ∈ fourL l x y n, (Lit.int .u32 k).wf = true := fun k hk => by
  have h1 : k ∈ ids (l.filter (crnF (x + (n % 2 : Nat)) (y + (n / 2 : Nat)) (n % 2 == 1) (n / 2 == 1))) := (List.mergeSort_perm _ _).mem_iff.1 hk
  obtain ⟨p, hp, rfl⟩ := List.mem_map.1 h1
  exact hw p (List.mem_filter.1 hp).1
theorem four_bad {l : Nat} {x y : Int} : (decide (100 < (l : Int)) = true) ∨ (decide (100 < (l : Int)) = false ∧ (x == 9223372036854775807) = true) ∨ (decide (100 < (l : Int)) = false ∧ (x == 9223372036854775807) = false ∧ (y == 9223372036854775807) = true) ∨ (decide (100 < (l : Int)) = false ∧ (x == 9223372036854775807) = false ∧ (y == 9223372036854775807) = false ∧ l ≤ 100 ∧ x ≠ 9223372036854775807 ∧ y ≠ 9223372036854775807) := by
  simp only [decide_eq_true_eq, decide_eq_false_iff_not, beq_iff_eq, beq_eq_false_iff_ne]; omega

theorem grown_of {w w' : World} (h : Below w.heap.size w w') : w.grownBy w' none := ⟨h.os, h.tape, h.output, h.size, fun k hk _ => h.block k hk⟩

set_option maxRecDepth 100000 in
set_option maxHeartbeats 8000000 in
theorem wCornerFour (a : Option Addr) (l : List Pt) (n c : Nat) (x y : Int) (w : World) (hn : l.length = n) (h : RdK ePt 3 w a l) (hf : wfL l) (wx : (Lit.int .i64 x).wf = true) (wy : (Lit.int .i64 y).wf = true) :
    Calls Tryz.prog 12 #[.slice a n c, .int .i64 x, .int .i64 y] w fun e w' => e = .returned (.bool true) ∧ Below w.heap.size w w' := by
  subst hn
  have AW := Lib.hid (fun W => awake12 W)
  have hx := wf64 wx
  have hy := wf64 wy
  simp only [leastI, mostI] at hx hy
  have hw : wfN l := fun p hp => (hf p hp).2.2
  have HR := Lib.hid h
  have HWL := Lib.hid hf
  clear wx wy h hf
  rcases four_bad (l := l.length) (x := x) (y := y) with d0 | ⟨d0, d1⟩ | ⟨d0, d1, d2⟩ | ⟨d0, d1, d2, hlen, hx9, hy9⟩
  iterate 3
    · go_enter Tryz.func12, Tryz.ntmps12
      go_wp2_with (go_at_call 32; refine (AW.out _).mono ?_; rintro e w3 ⟨rfl, hb3⟩)
      go_ret
      exact ⟨rfl, hb3⟩
  · have hx8 : x < 9223372036854775807 := by omega
    have hy8 : y < 9223372036854775807 := by omega
    clear hx9 hy9
    rcases Bool.eq_false_or_eq_true (unl l) with hu | hu
    · have HN := Lib.hid (show (ids l).Nodup by unfold unl at hu; simpa using hu)
      have cb1 := Lib.hid (coBuild a c l w HR.out (by omega) hw hu)
      have FW := Lib.hid (fun n => fourL_wf hw x y n)
      have HW := Lib.hid hw
      clear hu hw
      have hmm := @run_makeMap Tryz.prog
      go_enter Tryz.func12, Tryz.ntmps12
      go_wp2_with fail
      refine cb1.out.mono ?_
      rintro e w1 ⟨cb, rfl, T1, hb1⟩
      have HT := Lib.hid T1
      have HB1 := Lib.hid hb1
      have hs1 := hb1.size
      clear T1 hb1 cb1
      go_wp2
      go_loopw [10, 43] (fun mv iv wr => ∃ wv : Nat, iv = .int .u8 (wv : Int) ∧ wv ≤ 4 ∧ mv = .int .i64 ((fourT l x y wv).length : Nat) ∧ w1.heap.size < wr.heap.size ∧ Below w1.heap.size w1 wr ∧ Hid (∃ (D : DataW Unit) (ks : List Int), wr.ownsMap Tryz.prog 32 (plainElem Tryz.prog 3) w1.heap.size (fourT l x y wv).length D ∧ IsM .u32 .i64 D (cntF (fourT l x y wv)) ks)) (fun _ iv _ => 4 - (intOf iv).toNat)
      case atStart => exact ⟨0, rfl, by omega, rfl, by simp, (Below.refl _ _).alloc (Nat.le_refl _) _, ⟨.map [], [], World.ownsMap_made _ _ _ _, by rw [show fourT l x y 0 = [] from rfl, cntF_nil]; exact IsM.empty _ _⟩⟩
      case round =>
        obtain ⟨wv, rfl, hwv, rfl, hmb, hb, HM⟩ := hrel
        by_cases hlt : wv < 4
        · have hTl2 : (fourT l x y wv).length ≤ 400 := Nat.le_trans (fourT_len l x y wv) (Nat.le_trans (Nat.mul_le_mul (show wv ≤ 4 by omega) hlen) (by decide))
          have hm2 : Int.tmod (wv : Int) 2 = ((wv % 2 : Nat) : Int) := by rw [Int.tmod_eq_emod_of_nonneg (by omega)]; omega
          have hd2 : Int.tdiv (wv : Int) 2 = ((wv / 2 : Nat) : Int) := by rw [Int.tdiv_eq_ediv_of_nonneg (by omega)]; omega
          have h21 : wv % 2 ≤ 1 := by omega
          have h22 : wv / 2 ≤ 1 := by omega
          have hlt2 : (wv : Int) < 4 := by omega
          have HT5 := Lib.hid (HT.out.below hb HT.out.hi_le)
          have CR := Lib.hid (fun W (hT : CorAt W w.heap.size w1.heap.size cb l.length l) => coReport hT HWL.out (x + ((wv % 2 : Nat) : Int)) (y + ((wv / 2 : Nat) : Int)) (wv % 2 == 1) (wv / 2 == 1) wv (four_way hlt))
          have CC := Lib.hid (fun W (hT : CorAt W w.heap.size w1.heap.size cb l.length l) => coCount hT HWL.out (x + ((wv % 2 : Nat) : Int)) (y + ((wv / 2 : Nat) : Int)) (wv % 2 == 1) (wv / 2 == 1) wv (four_way hlt))
          have hFl : (hasN l (crnF (x + ((wv % 2 : Nat) : Int)) (y + ((wv / 2 : Nat) : Int)) (wv % 2 == 1) (wv / 2 == 1))).length ≤ l.length := hasN_few _ _
          have FM : Hid (fourT l x y (wv + 1) = fourT l x y wv ++ hasN l (crnF (x + ((wv % 2 : Nat) : Int)) (y + ((wv / 2 : Nat) : Int)) (wv % 2 == 1) (wv / 2 == 1))) := Lib.hid (fourT_more l x y wv)
          have FWF : Hid (∀ k ∈ hasN l (crnF (x + ((wv % 2 : Nat) : Int)) (y + ((wv / 2 : Nat) : Int)) (wv % 2 == 1) (wv / 2 == 1)), (Lit.int .u32 k).wf = true) := Lib.hid (FW.out wv)
          generalize hasN l (crnF (x + ((wv % 2 : Nat) : Int)) (y + ((wv / 2 : Nat) : Int)) (wv % 2 == 1) (wv / 2 == 1)) = F at *
          have hwv2 : (wv : Int) ≤ 4 := by omega
          generalize hTT : fourT l x y wv = T at *
          clear hTT
          obtain ⟨wo, ewo⟩ : ∃ wo : World, wo = wr := ⟨_, rfl⟩
          subst ewo
          have hsb := hb.size
          go_wp2_with fail
          refine (CR.out _ HT5.out).mono ?_
          rintro e w3 ⟨v3, c3, rfl, -, hown3, hb3⟩
          obtain ⟨a3, k3, rfl, -, -, -⟩ := Rd.of_owns hown3
          have HT6 := Lib.hid (HT5.out.below hb3 HT5.out.hi_le)
          have HOW3 := Lib.hid hown3
          have HB3 := Lib.hid hb3
          clear hown3 hb3 HT5 CR
          go_wp2_with fail
          refine (CC.out _ HT6.out).mono ?_
          rintro e w4 ⟨⟨c4, rfl, -⟩, hb4⟩
          have B34 := HB3.out.trans (hb4.mono HB3.out.size)
          have HOW := Lib.hid (ownsRow_below HOW3.out hb4)
          have HB4 := Lib.hid (hb.trans (B34.mono hsb))
          have HM4 : Hid (∃ (D : DataW Unit) (ks : List Int), w4.ownsMap Tryz.prog 32 (plainElem Tryz.prog 3) w1.heap.size T.length D ∧ IsM .u32 .i64 D (cntF T) ks) := by
            obtain ⟨D, ks, h1, h2⟩ := HM.out
            exact Lib.hid ⟨D, ks, h1.kept (grown_of B34) (by simp), h2⟩
          have hs4 := B34.size
          clear HOW3 HB3 hb4 B34 HT6 CC HM hm2 hd2 h21 h22
          go_wp2
          go_loopw [77] (fun jv wr => ∃ j : Nat, jv = .int .i64 j ∧ j ≤ F.length ∧ Hid (KpS (fun k => k = w1.heap.size) w4 wr) ∧ Hid (∃ (D : DataW Unit) (ks : List Int), wr.ownsMap Tryz.prog 32 (plainElem Tryz.prog 3) w1.heap.size (T.length + j) D ∧ IsM .u32 .i64 D (cntF (T ++ F.take j)) ks)) (fun jv _ => F.length - (intOf jv).toNat)
          case atStart => exact ⟨0, rfl, Nat.zero_le _, Lib.hid (KpS.refl _ _), by rw [List.take_zero, List.append_nil]; exact HM4⟩
          case round =>
            obtain ⟨j, rfl, hj, HK, HM⟩ := hrel
            by_cases hjl : j < F.length
            · have RR := rowK HOW.out HK.out (fun gb e h => by have := (HOW.out.lt gb e).1; omega)
              obtain ⟨a9, k9, e9, -, -, hr9⟩ := Rd.of_owns RR
              injection e9 with e9 _ _
              obtain ⟨b, off, ea, hbl, hcs⟩ := hr9.get (by omega)
              have x0 := hcs j hjl
              have et : T ++ F.take (j + 1) = (T ++ F.take j) ++ [F[j]] := by rw [List.take_succ_eq_append_getElem hjl, List.append_assoc]
              have hkey : Hid (keyOf Tryz.prog 32 (.int .u32 F[j]) = some (.int .u32 F[j])) := Lib.hid (keyOf_int_mk Tryz.underlying32 (FWF.out _ (List.getElem_mem _)))
              obtain ⟨D, ks, hown0, hD⟩ := HM.out
              have hcnt : List.count F[j] (T ++ F.take j) ≤ 600 := Nat.le_trans List.count_le_length (by rw [List.length_append, List.length_take]; omega)
              have hat0 : ∀ cc : Int, D.atKey (.int .u32 F[j]) (.lit (.int .i64 0)) = .lit (.int .i64 cc) → cc = (List.count F[j] (T ++ F.take j) : Nat) := fun cc hcc => (cnt_at4 hD _ cc hcc).symm
              have HD2 := hD.put F[j] ((List.count F[j] (T ++ F.take j) : Nat) + 1)
              rw [← cntF_snoc, ← et] at HD2
              have HD := Lib.hid HD2
              have HA0 := Lib.hid hat0
              have EA := Lib.hid (e9.trans ea)
              have hkl2 : (j : Int) < (F.length : Int) := by omega
              clear HM et hcs HD2 hD hat0 ea RR hr9 e9
              generalize List.count F[j] (T ++ F.take j) = cn at *
              generalize F[j] = m at *
              obtain rfl := EA.out
              clear EA
              have hTj : T.length + j < maxLen := by unfold maxLen; omega
              go_wp2_with (first | (at_lookup; refine wpList_lookup_own_int _ rfl _ _ 66 rfl 32 3 .i64 (int_keyed Tryz.underlying32) Tryz.underlying66 Tryz.underlying3 (Tryz.zeroValue3 _) w1.heap.size (T.length + j) _ rfl hown0 _ _ rfl hkey.out ?_; intro cc hat _; obtain rfl := HA0.out cc hat; clear hat) | (at_mapUpdate; refine wpList_mapUpdate_own _ rfl _ _ _ 66 rfl 32 3 (int_keyed Tryz.underlying32) Tryz.underlying66 _ w1.heap.size (T.length + j) _ rfl hown0 hTj _ _ _ rfl rfl hkey.out _ [] (plainElem_int Tryz.underlying3 (by simp [Lit.wf, IntKind.min, IntKind.max, IntKind.bits, IntKind.signed]; omega)) ?_; intro w33 hown3 hgrow3))
              have HM6 : Hid (∃ (D : DataW Unit) (ks : List Int), w33.ownsMap Tryz.prog 32 (plainElem Tryz.prog 3) w1.heap.size (T.length + (j + 1)) D ∧ IsM .u32 .i64 D (cntF (T ++ F.take (j + 1))) ks) := ⟨_, _, hown3, HD.out⟩
              have HM7 : Hid (∃ (D : DataW Unit), w33.ownsMap Tryz.prog 32 (plainElem Tryz.prog 3) w1.heap.size (T.length + (j + 1)) D ∧ ∃ ks, IsM .u32 .i64 D (cntF (T ++ F.take (j + 1))) ks) := ⟨_, hown3, _, HD.out⟩
              go_roundw
              case rel => exact ⟨j + 1, by go_num, by omega, Lib.hid (HK.out.grown hgrow3 (fun k hk => .inl (by injection hk with hk; exact hk.symm))), by first | exact HM6 | exact HM7⟩
              case measure => simp [intOf]; omega
            · obtain rfl : j = F.length := by omega
              rw [List.take_length] at HM
              have HB5 := HB4.out.trans (HK.out.toBelow HB4.out.size (fun k h => Nat.le_of_eq h.symm))
              have hks := HK.out.size
              have HM5 : Hid (∃ (D : DataW Unit) (ks : List Int), wr.ownsMap Tryz.prog 32 (plainElem Tryz.prog 3) w1.heap.size (fourT l x y (wv + 1)).length D ∧ IsM .u32 .i64 D (cntF (fourT l x y (wv + 1))) ks) := by
                rw [FM.out, List.length_append]; exact HM
              clear HM HOW HM4
              go_wp2
              go_roundw
              case rel => exact ⟨wv + 1, by go_num, by omega, by rw [FM.out, List.length_append]; go_num, by omega, HB5, HM5⟩
              case measure => simp [intOf]; omega
        · obtain rfl : wv = 4 := by omega
          have hperm := fourT_all l x y
          have hTlen : (fourT l x y 4).length = l.length := by rw [hperm.length_eq]; simp [ids]
          obtain ⟨D, ks, hown0, hD⟩ := HM.out
          have hcnt1 : Hid (∀ i (hi : i < l.length), ∀ cc : Int, D.atKey (.int .u32 l[i].2.2) (.lit (.int .i64 0)) = .lit (.int .i64 cc) → cc = 1) := Lib.hid (fun i hi cc hcc => by
            have h1 := cnt_at4 hD _ cc hcc
            rw [hperm.count_eq] at h1
            have hm : l[i].2.2 ∈ ids l := List.mem_map.2 ⟨_, List.getElem_mem hi, rfl⟩
            have h2 := List.one_le_count_iff.2 hm
            have h3 := List.nodup_iff_count.1 HN.out l[i].2.2
            omega)
          have hks : Maps.size D = l.length := by
            rw [hD.2.1]
            have : (ids l).length = l.length := by simp [ids]
            rw [← this]
            refine nodup_same_len hD.2.2.1 HN.out (fun z => ?_)
            rw [hD.2.2.2.1 z]
            unfold cntF
            by_cases hz : z ∈ fourT l x y 4
            · simp [hz, hperm.mem_iff.1 hz]
            · simp only [hz, if_false, Option.isSome_none, Bool.false_eq_true, false_iff]
              exact fun h => hz (hperm.mem_iff.2 h)
          have HKS := Lib.hid hks
          have HOM := Lib.hid hown0
          have HTL := Lib.hid hTlen
          obtain ⟨wo, ewo⟩ : ∃ wo : World, wo = wr := ⟨_, rfl⟩
          subst ewo
          have HB5 := Lib.hid (HB1.out.trans (hb.mono hs1))
          have hso := HB5.out.size
          rw [hTlen]
          clear hperm HM hD hown0 hks hTlen HT FW
          go_wp2
          go_loopw [89] (fun kv wr => ∃ k : Nat, kv = .int .i64 k ∧ k ≤ l.length ∧ Hid (Below wo.heap.size wo wr)) (fun kv _ => l.length - (intOf kv).toNat)
          case atStart => exact ⟨0, rfl, Nat.zero_le _, Lib.hid (Below.refl _ _)⟩
          case round =>
            obtain ⟨k, rfl, hk, HBK⟩ := hrel
            by_cases hkl : k < l.length
            · obtain ⟨b, off, ea, hbl, hcs⟩ := (HR.out.below (HB5.out.trans (HBK.out.mono hso))).get (by omega)
              have x0 := hcs k hkl 0 (by omega)
              have x1 := hcs k hkl 1 (by omega)
              have x2 := hcs k hkl 2 (by omega)
              simp only [ePt, List.getElem?_cons_zero, List.getElem?_cons_succ, Nat.add_zero] at x0 x1 x2
              have hkey : Hid (keyOf Tryz.prog 32 (.int .u32 l[k].2.2) = some (.int .u32 l[k].2.2)) := Lib.hid (keyOf_int_mk Tryz.underlying32 (HW.out _ (List.getElem_mem hkl)))
              have HC1 := Lib.hid (hcnt1.out k hkl)
              have EA := Lib.hid ea
              have hkl2 : (k : Int) < (l.length : Int) := by omega
              have hownA := (HOM.out.kept (grown_of HBK.out) (by simp)).kept (World.grownBy_alloc wr (.cells #[.int .i64 l[k].1, .int .i64 l[k].2.1, .int .u32 l[k].2.2] 34) none) (by simp)
              have BK := Lib.hid (HBK.out.alloc HBK.out.size (.cells #[.int .i64 l[k].1, .int .i64 l[k].2.1, .int .u32 l[k].2.2] 34))
              clear hcs ea
              generalize l[k] = q at *
              obtain ⟨q1, q2, q3⟩ := q
              simp only at x0 x1 x2 hkey HC1 hownA BK
              obtain rfl := EA.out
              clear EA
              go_wp2_with (at_lookup; refine wpList_lookup_own_int _ rfl _ _ 66 rfl 32 3 .i64 (int_keyed Tryz.underlying32) Tryz.underlying66 Tryz.underlying3 (Tryz.zeroValue3 _) w1.heap.size _ _ rfl hownA _ _ rfl hkey.out ?_; intro cc hat _; obtain rfl := HC1.out cc hat; clear hat)
              go_roundw
              case rel => first | exact ⟨k + 1, by go_num, by omega, BK⟩ | ((repeat apply Exists.intro); exact ⟨⟨k + 1, by go_num, by omega, BK⟩, rfl⟩)
              case measure => simp [intOf]; omega
            · obtain rfl : k = l.length := by omega
              have hownE := HOM.out.kept (grown_of HBK.out) (by simp)
              have BR := HB5.out.trans (HBK.out.mono hso)
              have hlen9 : (Builtin.len_ #[66] 3 #[.map (some w1.heap.size)]).run Tryz.prog wr = .ok (.int .i64 (l.length : Nat)) wr := by rw [hownE.len Tryz.underlying66 3, HKS.out]
              go_wp2_with (go_at_call 32; refine (AW.out _).mono ?_; rintro e w9 ⟨rfl, hb9⟩)
              go_ret
              exact ⟨rfl, BR.trans (hb9.mono BR.size)⟩
    · have cb1 := Lib.hid (coBuild_bad a c l w HR.out (by omega) hw hu)
      go_enter Tryz.func12, Tryz.ntmps12
      go_wp2_with fail
      refine cb1.out.mono ?_
      rintro e w2 ⟨rfl, hb2⟩
      go_wp2_with (go_at_call 32; refine (AW.out _).mono ?_; rintro e w3 ⟨rfl, hb3⟩)
      go_ret
      exact ⟨rfl, hb2.trans (hb3.mono hb2.size)⟩
end Go.Proofs.YthplgcakhniidaaGreat
