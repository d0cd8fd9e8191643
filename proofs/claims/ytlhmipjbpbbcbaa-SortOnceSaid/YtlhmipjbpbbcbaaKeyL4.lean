/- The walk of the law SortOnce. -/
import Derived.Test.YtlhmipjbpbbcbaaU32P
import Derived.Test.YtlhmipjbpbbcbaaKeyW
import Derived.Test.YtlhmipjbpbbcbaaMapI
namespace Go.Proofs.Ytlhmipjbpbbcbaa
open Go.RowKit Go.Maps

set_option maxRecDepth 100000 in
set_option maxHeartbeats 2000000 in
theorem wSortOnce (a : Option Addr) (l : List Int) (c : Nat) (w : World) (h : Rd (.int .u32) w a l) (hm : l.length ≤ 9223372036854775807) (hw : ∀ x ∈ l, (Lit.int .u32 x).wf = true) :
    Calls Try.prog 13 #[.slice a l.length c] w fun e w' => e = .returned (.bool true) ∧ Below w.heap.size w w' := by
  have AW := Lib.hid awake03
  have hmm := @run_makeMap Try.prog
  by_cases h1000 : 1000 < l.length
  · clear h
    go_enter Try.func13, Try.ntmps13
    go_wp2_with fail
    refine (AW.out w).mono ?_
    rintro e w1 ⟨rfl, hb⟩
    go_wp2_with fail
    go_ret
    exact ⟨rfl, hb⟩
  · have C1 := Lib.hid (onceAny a l c w h (by omega))
    have H := Lib.hid h
    have HW := Lib.hid hw
    have F1 := Lib.hid (sqz_facts l).1
    have F2 := Lib.hid (sqz_facts l).2.1
    have hS := (sqz_facts l).2.2
    clear h hw
    generalize sqz l = s at *
    go_enter Try.func13, Try.ntmps13
    go_wp2_with fail
    refine C1.out.mono ?_
    rintro e w1 ⟨v1, rfl, hown, hb1⟩
    obtain ⟨a1, c1, rfl, _, _, hr⟩ := Rd.of_owns hown
    have R1 := Lib.hid hr
    clear hr hown C1
    go_wp2
    go_loopw [18] (fun i wr => ∃ k : Nat, i = .int .i64 k ∧ k ≤ l.length ∧ Below w1.heap.size w1 wr ∧ Hid (∃ (D : DataW Unit) (ks : List Int), wr.ownsMap Try.prog 52 (plainElem Try.prog 3) w1.heap.size k D ∧ IsM .u32 .i64 D (cntF (l.take k)) ks)) (fun i _ => l.length - (intOf i).toNat)
    case atStart => exact ⟨0, rfl, Nat.zero_le _, (Below.refl _ _).alloc (Nat.le_refl _) _, ⟨.map [], [], World.ownsMap_made _ _ _ _, by rw [List.take_zero, cntF_nil]; exact IsM.empty _ _⟩⟩
    case round =>
      obtain ⟨k, rfl, hk, hb2, HO⟩ := hrel
      by_cases hlt : k < l.length
      · have B2 := hb1.trans (hb2.mono hb1.size)
        obtain ⟨b, off, ea, hbl, hc⟩ := (H.out.below B2).get (by omega)
        have hx := hc k hlt
        have et : l.take (k + 1) = l.take k ++ [l[k]] := List.take_succ_eq_append_getElem hlt
        have hkey : Hid (keyOf Try.prog 52 (.int .u32 l[k]) = some (.int .u32 l[k])) := keyOf_int_mk Try.underlying52 (HW.out _ (List.getElem_mem _))
        obtain ⟨D, ks, hown, hD⟩ := HO.out
        have hcnt : List.count l[k] (l.take k) ≤ k := by
          have := List.count_le_length (a := l[k]) (l := l.take k)
          simp at this; omega
        have hat0 : ∀ cc : Int, D.atKey (.int .u32 l[k]) (.lit (.int .i64 0)) = .lit (.int .i64 cc) → cc = (List.count l[k] (l.take k) : Nat) := by
          intro cc hcc
          rw [(hD.2.2.2.2 l[k]).2] at hcc
          unfold cntF at hcc
          by_cases hin : l[k] ∈ l.take k
          · rw [if_pos hin] at hcc
            simp at hcc; exact hcc.symm
          · rw [if_neg hin] at hcc
            rw [List.count_eq_zero.2 hin]
            simp at hcc; exact hcc.symm
        have HD2 := hD.put l[k] ((List.count l[k] (l.take k) : Nat) + 1)
        rw [← cntF_snoc, ← et] at HD2
        have HD := Lib.hid HD2
        have hS1 := hb2.size
        have HA0 := Lib.hid hat0
        clear HO et hc HW F1 F2 HD2 hD hat0
        have EA := Lib.hid ea
        clear ea
        generalize List.count l[k] (l.take k) = cn at *
        generalize l[k] = x at *
        obtain rfl := EA.out
        clear EA
        go_wp2_with (first | (at_lookup; refine wpList_lookup_own_int _ rfl _ _ 55 rfl 52 3 .i64 (int_keyed Try.underlying52) Try.underlying55 Try.underlying3 (Try.zeroValue3 _) w1.heap.size k _ rfl hown _ _ rfl hkey.out ?_; intro cc hat _; obtain rfl := HA0.out cc hat; clear hat) | (at_mapUpdate; refine wpList_mapUpdate_own _ rfl _ _ _ 55 rfl 52 3 (int_keyed Try.underlying52) Try.underlying55 _ w1.heap.size k _ rfl hown (by unfold maxLen; omega) _ _ _ rfl rfl hkey.out _ [] (plainElem_int Try.underlying3 (by simp [Lit.wf, IntKind.min, IntKind.max, IntKind.bits, IntKind.signed]; omega)) ?_; intro w3 hown3 hgrow3))
        have B3 : Below w1.heap.size wr w3 := grown_below hgrow3 hS1 (Nat.le_refl _)
        have HO3 : Hid (∃ (D : DataW Unit) (ks : List Int), w3.ownsMap Try.prog 52 (plainElem Try.prog 3) w1.heap.size (k + 1) D ∧ IsM .u32 .i64 D (cntF (l.take (k + 1))) ks) := ⟨_, _, hown3, HD.out⟩
        have B4 := hb2.trans B3
        clear hown3 hgrow3 hown HD HA0
        go_wp2
        go_roundw
        case rel => exact ⟨k + 1, by go_num, by omega, B4, HO3⟩
        case measure => simp [intOf]; omega
      · obtain rfl : k = l.length := by omega
        obtain ⟨D, ks, hown, hD⟩ := HO.out
        rw [List.take_length] at hD
        have hsz : Maps.size D = s.length := hD.2.1.trans (nodup_same_len hD.2.2.1 (rising_nodup F1.out) fun x => by rw [hD.2.2.2.1, F2.out]; unfold cntF; split <;> simp [*])
        have HAT : Hid (∀ x ∈ s, ∀ cc : Int, D.atKey (.int .u32 x) (.lit (.int .i64 0)) = .lit (.int .i64 cc) → (cc == 0) = false) := by
          intro x hx cc hcc
          rw [(hD.2.2.2.2 x).2] at hcc
          have hin := (F2.out x).1 hx
          unfold cntF at hcc
          rw [if_pos hin] at hcc
          have := List.count_pos_iff.2 hin
          simp at hcc ⊢
          omega
        have B2 := hb1.trans (hb2.mono hb1.size)
        have R2 := Lib.hid (R1.out.below hb2)
        have HO2 := Lib.hid hown
        have HSZ := Lib.hid hsz
        have HWS : Hid (∀ x ∈ s, (Lit.int .u32 x).wf = true) := fun x hx => HW.out x ((F2.out x).1 hx)
        clear HO R1 H HW hown hsz hlt hk hD
        obtain ⟨wo, ewo⟩ : ∃ wo : World, wo = wr := ⟨_, rfl⟩
        subst ewo
        go_wp2
        go_loopw [29] (fun i wr2 => ∃ k : Nat, i = .int .i64 k ∧ k ≤ s.length ∧ Below wo.heap.size wo wr2) (fun i _ => s.length - (intOf i).toNat)
        case atStart => exact ⟨0, rfl, Nat.zero_le _, Below.refl _ _⟩
        case round =>
          obtain ⟨k, rfl, hk2, hb3⟩ := hrel
          by_cases hlt : k < s.length
          · obtain ⟨b, off, ea, hbl, hc⟩ := (R2.out.below hb3).get (by omega)
            have hx := hc k hlt
            have hkey : Hid (keyOf Try.prog 52 (.int .u32 s[k]) = some (.int .u32 s[k])) := keyOf_int_mk Try.underlying52 (HWS.out _ (List.getElem_mem _))
            have HA1 := Lib.hid (HAT.out s[k] (List.getElem_mem _))
            have hown := HO2.out.kept (below_asGrown hb3) (by simp)
            by_cases hk0 : k = 0
            · subst hk0
              clear hc
              rw [Nat.add_zero] at hx
              generalize s[0] = x at *
              subst ea
              have hd : decide ((0 : Int) < 0) = false := by decide
              go_wp2_with (at_lookup; refine wpList_lookup_own_int _ rfl _ _ 55 rfl 52 3 .i64 (int_keyed Try.underlying52) Try.underlying55 Try.underlying3 (Try.zeroValue3 _) w1.heap.size _ _ rfl hown _ _ rfl hkey.out ?_; intro cc hat _; have hcz := HA1.out cc hat; clear hat)
              go_roundw
              case rel => exact ⟨1, by go_num, by omega, hb3⟩
              case measure => simp [intOf]; omega
            · have hy := hc (k - 1) (by omega)
              have hlt2 := List.pairwise_iff_getElem.1 F1.out (k - 1) k (by omega) hlt (by omega)
              have e1 : ((k : Int) - 1).toNat = k - 1 := by omega
              have hd : decide (s[k] ≤ s[k - 1]) = false := by simp; omega
              have hd0 : decide ((0 : Int) < (k : Int)) = true := by simp; omega
              have hk0' : 0 < k := by omega
              have hki : (0 : Int) ≤ (k : Int) - 1 := by omega
              have hki2 : (k : Int) - 1 < (s.length : Int) := by omega
              have hki3 : (k : Int) < (s.length : Int) := by omega
              clear hc hk0
              generalize s[k] = x at *
              generalize s[k - 1] = y at *
              subst ea
              go_wp2_with (at_lookup; refine wpList_lookup_own_int _ rfl _ _ 55 rfl 52 3 .i64 (int_keyed Try.underlying52) Try.underlying55 Try.underlying3 (Try.zeroValue3 _) w1.heap.size _ _ rfl hown _ _ rfl hkey.out ?_; intro cc hat _; have hcz := HA1.out cc hat; clear hat)
              go_roundw
              case rel => exact ⟨k + 1, by go_num, by omega, hb3⟩
              case measure => simp [intOf]; omega
          · have B3 := B2.trans (hb3.mono B2.size)
            have R3 := Lib.hid (R2.out.below hb3)
            have hown3 := HO2.out.kept (below_asGrown hb3) (by simp)
            have hsize := HSZ.out
            go_wp2_with (at_len; refine wpList_len_own _ rfl _ 55 rfl 52 3 Try.underlying55 _ w1.heap.size _ _ rfl hown3 ?_; rw [hsize])
            refine (onceAny a1 s c1 wr R3.out (by omega)).mono ?_
            rintro e w5 ⟨v5, rfl, hown5, hb5⟩
            rw [show sqz s = s from sqz_of s s F1.out (fun _ => Iff.rfl)] at hown5
            obtain ⟨a5, c5, rfl, _, _, hr5⟩ := Rd.of_owns hown5
            have R5 := Lib.hid hr5
            clear hr5 hown5
            have B5 := B3.trans (hb5.mono B3.size)
            go_wp2_with fail
            refine (same_names a5 a1 s s c5 c1 w5 R5.out (R3.out.below hb5) (by omega) (by omega)).mono ?_
            rw [show decide (s = s) = true by simp]
            rintro e w6 ⟨rfl, hb6⟩
            have B6 := B5.trans (hb6.mono B5.size)
            go_wp2_with fail
            refine (AW.out w6).mono ?_
            rintro e w7 ⟨rfl, hb7⟩
            go_wp2_with fail
            go_ret
            exact ⟨rfl, B6.trans (hb7.mono B6.size)⟩

end Go.Proofs.Ytlhmipjbpbbcbaa
