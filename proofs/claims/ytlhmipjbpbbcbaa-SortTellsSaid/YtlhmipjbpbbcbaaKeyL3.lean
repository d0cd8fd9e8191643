/- The walk of the law SortMerges. -/
import Derived.Test.YtlhmipjbpbbcbaaKeyL2
import Derived.Test.YtlhmipjbpbbcbaaKeyS
namespace Go.Proofs.Ytlhmipjbpbbcbaa
open Go.RowKit

theorem takes_succ {α : Type} [DecidableEq α] (A B : List α) (k : Nat) (hA : k < A.length) (hB : k < B.length) : decide (A.take (k + 1) = B.take (k + 1)) = (decide (A.take k = B.take k) && decide (A[k] = B[k])) := by
  rw [List.take_succ_eq_append_getElem hA, List.take_succ_eq_append_getElem hB]
  rw [Bool.eq_iff_iff]
  simp only [Bool.and_eq_true, decide_eq_true_eq]
  constructor
  · intro h
    have := List.append_inj h (by simp; omega)
    simpa using this
  · rintro ⟨h1, h2⟩
    rw [h1, h2]

theorem copyKeys (a : Option Addr) (l : List (Int × Int)) (n c : Nat) (w : World) (hn : l.length = n) (h : RdK eKey 2 w a l) (hl : n ≤ 1000000) :
    Calls Try.prog 27 #[.slice a n c] w fun e w' => ∃ v, e = .returned v ∧ w'.ownsRow w.heap.size 54 2 v n (l.flatMap eKey) ∧ Below w.heap.size w w' := by
  subst hn
  have hown := World.ownsRow_made (e := 54) (size := 2) w #[] 0 (Nat.le_refl _) (Nat.zero_le _) rfl
  have h' : RdK eKey 2 (w.alloc (.cells #[] 54)) a l := h.below ((Below.refl _ _).alloc (Nat.le_refl _) _)
  clear h
  go_enter Try.func27, Try.ntmps27
  go_wp2_with (at_builtin; refine wp_appendK elKey eKey_len eKey_one w.heap.size hown h' rfl _ _ rfl rfl c rfl (by unfold maxLen; omega) (by omega) (by simp) ?_; intro v' w' hown' hg)
  go_ret
  rw [Nat.zero_add, List.nil_append] at hown'
  exact ⟨_, rfl, hown', below_grown ((Below.refl _ _).alloc (Nat.le_refl _) _) hown hg (by simp) (Nat.le_refl _)⟩

theorem eKey_eq (p q : Int × Int) : ((p.1 == q.1) && (p.2 == q.2)) = decide (p = q) := by
  rw [Bool.eq_iff_iff]
  simp [Prod.ext_iff]

theorem own_sliceK {α : Type} {enc : α → List Value} {sz : Nat} {w : World} (hk : ∀ x, (enc x).length = sz) {base : Nat} {e : TypeId} {v : Value} {n : Nat} {l : List α} (hsz : 0 < sz) (h : w.ownsRow base e sz v n (l.flatMap enc)) :
    ∃ a c, v = .slice a n c ∧ RdK enc sz w a l := by
  obtain ⟨a, c, rfl, rfl, _, hr⟩ := RdK.of_owns hk hsz h
  exact ⟨a, c, rfl, hr⟩

theorem own_slice {α : Type} {enc : α → Value} {w : World} {base : Nat} {e : TypeId} {v : Value} {n : Nat} {l : List α} (h : w.ownsRow base e 1 v n (l.map enc)) :
    ∃ a c, v = .slice a n c ∧ Rd enc w a l := by
  obtain ⟨a, c, rfl, rfl, _, hr⟩ := Rd.of_owns h
  exact ⟨a, c, rfl, hr⟩

theorem putK_dec (l : List (Int × Int)) : decide (putK l = l) = riseK l := by
  rw [Bool.eq_iff_iff]
  simp only [decide_eq_true_eq]
  exact putK_eq l

theorem mrgL_len (l l' : List (Int × Int)) : (mrgL l l').length = l.length + l'.length := by
  unfold mrgL
  rw [List.length_merge, List.length_range, List.length_range']

theorem kMergeYesN (a a' : Option Addr) (l l' : List (Int × Int)) (n n' c c' : Nat) (w : World) (hn : l.length = n) (hn' : l'.length = n') (h : RdK eKey 2 w a l) (h' : RdK eKey 2 w a' l') (hl : n ≤ 200000) (hl' : n' ≤ 200000) (hr : (riseK l && riseK l') = true) :
    Calls Try.prog 32 #[.slice a n c, .slice a' n' c'] w fun e w' =>
      ∃ am cm, e = .returned (.tuple #[.slice am (n + n') cm, .int .i64 (n + n' : Nat), .int .i64 0]) ∧ Rd eNat w' am (mrgL l l') ∧ Below w.heap.size w w' := by
  subst hn hn'
  refine (kMergeYes a a' l l' c c' w h h' hl hl' hr).mono ?_
  rintro e w' ⟨v, rfl, hown, hb⟩
  obtain ⟨am, cm, rfl, hr⟩ := own_slice hown
  exact ⟨am, cm, rfl, hr, hb⟩

theorem kMergeNoN (a a' : Option Addr) (l l' : List (Int × Int)) (n n' c c' : Nat) (w : World) (hn : l.length = n) (hn' : l'.length = n') (h : RdK eKey 2 w a l) (h' : RdK eKey 2 w a' l') (hl : n ≤ 200000) (hl' : n' ≤ 200000) (hr : (riseK l && riseK l') = false) :
    Calls Try.prog 32 #[.slice a n c, .slice a' n' c'] w fun e w' => e = .returned (.tuple #[.slice none 0 0, .int .i64 0, .int .i64 2]) ∧ Below w.heap.size w w' := by
  subst hn hn'
  exact kMergeNo a a' l l' c c' w h h' hl hl' hr

theorem intsSame (a a' : Option Addr) (c c' m : Nat) (L : List Nat) (w : World) (hL : L.length = m) (h : Rd eNat w a L) (h' : Rd eNat w a' L) (hm : m ≤ 1000000) :
    Calls Try.prog 31 #[.slice a m c, .slice a' m c'] w fun e w' => e = .returned (.bool true) ∧ Below w.heap.size w w' := by
  subst hL
  have := same_ints a a' (ints L) (ints L) c c' w (Rd_ints h) (Rd_ints h') (by rw [ints_len]; omega) (by rw [ints_len]; omega)
  rw [ints_len, decide_eq_true rfl] at this
  exact this

theorem getDK (l : List (Int × Int)) (i : Nat) (h : i < l.length) : l.getD i (0, 0) = l[i] := by
  rw [List.getD_eq_getElem?_getD, List.getElem?_eq_getElem h, Option.getD_some]

set_option maxRecDepth 100000 in
set_option maxHeartbeats 8000000 in
theorem wSortMerges (a : Option Addr) (l : List (Int × Int)) (n c : Nat) (a' : Option Addr) (l' : List (Int × Int)) (n' c' : Nat) (w : World) (hn : l.length = n) (h : RdK eKey 2 w a l) (hn' : l'.length = n') (h' : RdK eKey 2 w a' l') :
    Calls Try.prog 11 #[.slice a n c, .slice a' n' c'] w fun e w' => e = .returned (.bool true) ∧ Below w.heap.size w w' := by
  have AW := Lib.hid awake03
  have HN := Lib.hid hn
  have HN' := Lib.hid hn'
  have H := Lib.hid h
  have H' := Lib.hid h'
  clear hn h hn' h'
  by_cases h1 : 1000 < n
  · go_enter Try.func11, Try.ntmps11
    go_wp2_with fail
    refine (AW.out w).mono ?_
    rintro e w1 ⟨rfl, hb⟩
    go_wp2_with fail
    go_ret
    exact ⟨rfl, hb⟩
  by_cases h2 : 1000 < n'
  · go_enter Try.func11, Try.ntmps11
    go_wp2_with fail
    refine (AW.out w).mono ?_
    rintro e w1 ⟨rfl, hb⟩
    go_wp2_with fail
    go_ret
    exact ⟨rfl, hb⟩
  have C1 := Lib.hid (kOrdN a l n c w HN.out H.out (by omega))
  go_enter Try.func11, Try.ntmps11
  go_wp2_with fail
  refine C1.out.mono ?_
  rintro e w1 ⟨a1, c1, rfl, hc1, hown, hb1⟩
  clear C1
  have P1 := Lib.hid (rd_owned hown)
  clear hown
  have C2 := Lib.hid (kOrdN a' l' n' c' w1 HN'.out (H'.out.below hb1) (by omega))
  go_wp2_with fail
  refine C2.out.mono ?_
  rintro e w2 ⟨a2, c2, rfl, hc2, hown, hb2⟩
  clear C2
  have P2 := Lib.hid (rd_owned hown)
  clear hown
  have B2 := bl hb1 hb2
  have P1' := Lib.hid (P1.out.below hb2)
  have C3 := Lib.hid (kRisesOf a l n c w2 HN.out (H.out.below B2) (by omega) a1 c1 P1'.out)
  go_wp2_with fail
  refine C3.out.mono ?_
  rintro e w3 ⟨rfl, hb3⟩
  clear C3
  have B3 := bl B2 hb3
  have C4 := Lib.hid (kRisesOf a' l' n' c' w3 HN'.out (H'.out.below B3) (by omega) a2 c2 (P2.out.below hb3))
  go_wp2_with fail
  refine C4.out.mono ?_
  rintro e w4 ⟨rfl, hb4⟩
  clear C4
  have B4 := bl B3 hb4
  have b24 := bl hb3 hb4
  have Q1 := Lib.hid (P1'.out.below b24)
  have Q2 := Lib.hid (P2.out.below b24)
  have K1 := Lib.hid (H.out.below B4)
  have K2 := Lib.hid (H'.out.below B4)
  clear P1 P1' P2 hb1 hb2 hb3 hb4 B2 B3 b24
  go_wp2
  go_loopw [11, 13, 14, 65] (fun vx vf _ i wr => ∃ k : Nat, i = .int .i64 k ∧ k ≤ n ∧ vf = .bool (decide ((putK l).take k = l.take k)) ∧ Hid (wr.ownsRow w4.heap.size 54 2 vx k (((putK l).take k).flatMap eKey)) ∧ Below w4.heap.size w4 wr) (fun _ _ _ i _ => n - (intOf i).toNat)
  case atStart => exact ⟨0, rfl, Nat.zero_le _, by simp, ⟨rfl, .inl ⟨rfl, rfl⟩⟩, Below.refl _ _⟩
  case round =>
    obtain ⟨k, rfl, hk, rfl, HO, hb⟩ := hrel
    by_cases hkn : k < n
    · obtain ⟨bp, op, rfl, hbp, hcp⟩ := (Q1.out).get (by rw [ordL_len, HN.out]; omega)
      obtain ⟨bl, ol, rfl, hbl, hcl⟩ := (K1.out).get (by rw [HN.out]; omega)
      have hkl : k < l.length := by rw [HN.out]; exact hkn
      have hpl : (ordL l)[k]'(by rw [ordL_len]; exact hkl) < l.length := ordL_lt l _ (List.getElem_mem _)
      have hpk := (hb.cell (p := ⟨bp, op + k, none⟩) hbp).trans (hcp k (by rw [ordL_len]; exact hkl))
      have ht := putK_take l k hkl
      have hs := takes_succ (putK l) l k (by rw [putK_len]; exact hkl) hkl
      rw [putK_get l k hkl] at hs
      generalize (ordL l)[k]'(by rw [ordL_len]; exact hkl) = p at *
      rw [getDK l p hpl] at ht hs
      have X0 := (hb.cell (p := ⟨bl, ol + p * 2 + 0, none⟩) hbl).trans (hcl p hpl 0 (by omega))
      have X1 := (hb.cell (p := ⟨bl, ol + p * 2 + 1, none⟩) hbl).trans (hcl p hpl 1 (by omega))
      have Y0 := hcl k hkl 0 (by omega)
      have Y1 := hcl k hkl 1 (by omega)
      simp only [eKey, eNat, List.getElem?_cons_zero, List.getElem?_cons_succ, Nat.add_zero] at hpk X0 X1 Y0 Y1
      have hpn : p < n := by rw [← HN.out]; exact hpl
      generalize l[p]'hpl = px at *
      generalize l[k]'hkl = py at *
      rw [← eKey_eq] at hs
      obtain ⟨px1, px2⟩ := px
      obtain ⟨py1, py2⟩ := py
      simp only at X0 X1 Y0 Y1 hs
      have q1 : (0 : Int) ≤ (k : Int) := by omega
      have q2 : (k : Int) < (n : Int) := by omega
      have q3 : (0 : Int) ≤ (p : Int) := by omega
      have q4 : (p : Int) < (n : Int) := by omega
      have q5 : (k : Int) < (k : Int) + 1 := by omega
      have hlk : ((putK l).take k).length = k := by rw [List.length_take, putK_len]; omega
      have HT := Lib.hid ht
      have HLK := Lib.hid hlk
      have HB := Lib.hid hb
      have hW := hb.size
      clear hcp hcl ht hlk hb
      generalize hg : (decide ((putK l).take k = l.take k)) = f at *
      have HF : Hid ((decide ((putK l).take (k + 1) = l.take (k + 1))) = (f && ((px1 == py1) && (px2 == py2)))) := by
        show _ = _
        rw [hs, ← hg]
        try (first | rfl | rw [Bool.and_assoc])
      clear hg hs
      have hcs : f = false ∨ (px1 = py1 ∧ px2 = py2) ∨ ((px1 == py1) = false) ∨ (px1 = py1 ∧ (px2 == py2) = false) := by
        by_cases e1 : px1 = py1
        · by_cases e2 : px2 = py2
          · exact .inr (.inl ⟨e1, e2⟩)
          · exact .inr (.inr (.inr ⟨e1, by simp [e2]⟩))
        · exact .inr (.inr (.inl (by simp [e1])))
      cases f
      case' true => rcases hcs with hcs | ⟨rfl, rfl⟩ | hcs | ⟨rfl, hcs⟩
      case' true.inl => cases hcs
      case' false => clear hcs
      all_goals
        go_wp2_with (at_builtin; refine wp_append1 elKey w4.heap.size HO.out [.int .i64 px1, .int .u32 px2] rfl (by simp [Value.oneCell']) rfl _ _ rfl rfl _ rfl (by unfold maxLen; omega) (by omega) hW ?_; intro v' w6 hown' hg; have B6 := Lib.hid (below_grown HB.out HO.out hg hW (Nat.le_refl _)); have hown7 : w6.ownsRow w4.heap.size 54 2 v' (k + 1) (((putK l).take (k + 1)).flatMap eKey) := (by rw [HT.out, List.flatMap_append, List.flatMap_cons, List.flatMap_nil, List.append_nil]; exact hown'); obtain ⟨v, c6, rfl, e6, _, hr6⟩ := RdK.of_owns eKey_len (by decide) hown7; have HO7 := Lib.hid hown7; rw [← e6] at HO7; clear hown' hown7 hg; obtain ⟨b6, o6, rfl, hb6, hc6⟩ := hr6.get (by omega); have Z0 := hc6 k (by omega) 0 (by omega); have Z1 := hc6 k (by omega) 1 (by omega); have ez : ((putK l).take (k + 1))[k]'(by omega) = (px1, px2) := (by simp only [HT.out]; rw [List.getElem_append_right (by rw [HLK.out]; exact Nat.le_refl _)]; simp [HLK.out]); rw [ez] at Z0 Z1; simp only [eKey, List.getElem?_cons_zero, List.getElem?_cons_succ, Nat.add_zero] at Z0 Z1; rw [← e6]; have V0 := (B6.out.cell (p := ⟨bl, ol + k * 2, none⟩) hbl).trans Y0; have V1 := (B6.out.cell (p := ⟨bl, ol + k * 2 + 1, none⟩) hbl).trans Y1; clear ez hc6 hr6 e6 Y0 Y1 X0 X1 hpk HT HLK HB HO)
        go_quiet (fail)
        go_wp2
        go_roundw
        case rel => exact ⟨k + 1, by go_num, by omega, by rw [HF.out]; first | rfl | (simp; done) | (rw [hcs]; rfl) | (simp [hcs]; done) | (rw [hcs]; simp), HO7, B6.out.trans ⟨rfl, rfl, rfl, Nat.le_refl _, fun _ _ => rfl⟩⟩
        case measure => simp [intOf]; omega
    · have hkk : n = k := by omega
      subst hkk
      have T1 : (putK l).take n = putK l := by rw [List.take_of_length_le]; rw [putK_len, HN.out]; exact Nat.le_refl _
      have T2 : l.take n = l := by rw [List.take_of_length_le]; rw [HN.out]; exact Nat.le_refl _
      rw [T1] at HO
      rw [T1, T2]
      clear T1 T2
      generalize hf1 : decide (putK l = l) = f1
      have HF1 := Lib.hid hf1
      obtain ⟨vx, cx, rfl, hrx⟩ := own_sliceK eKey_len (by decide) HO.out
      have RX := Lib.hid hrx
      obtain ⟨w5, e5⟩ : ∃ x, x = wr := ⟨_, rfl⟩
      subst e5
      have K3 := Lib.hid (K2.out.below hb)
      have Q3 := Lib.hid (Q2.out.below hb)
      have B5 := bl B4 hb
      clear hf1 hrx HO hkn hk Q1 K1 Q2 K2 hb B4
      go_wp2
      go_loopw [12, 13, 15, 93] (fun vx vf _ i wr => ∃ k : Nat, i = .int .i64 k ∧ k ≤ n' ∧ vf = .bool (f1 && decide ((putK l').take k = l'.take k)) ∧ Hid (wr.ownsRow w5.heap.size 54 2 vx k (((putK l').take k).flatMap eKey)) ∧ Below w5.heap.size w5 wr) (fun _ _ _ i _ => n' - (intOf i).toNat)
      case atStart => exact ⟨0, rfl, Nat.zero_le _, by simp, ⟨rfl, .inl ⟨rfl, rfl⟩⟩, Below.refl _ _⟩
      case round =>
        obtain ⟨k, rfl, hk, rfl, HO, hb⟩ := hrel
        by_cases hkn : k < n'
        · obtain ⟨bp, op, rfl, hbp, hcp⟩ := (Q3.out).get (by rw [ordL_len, HN'.out]; omega)
          obtain ⟨bl, ol, rfl, hbl, hcl⟩ := (K3.out).get (by rw [HN'.out]; omega)
          have hkl : k < l'.length := by rw [HN'.out]; exact hkn
          have hpl : (ordL l')[k]'(by rw [ordL_len]; exact hkl) < l'.length := ordL_lt l' _ (List.getElem_mem _)
          have hpk := (hb.cell (p := ⟨bp, op + k, none⟩) hbp).trans (hcp k (by rw [ordL_len]; exact hkl))
          have ht := putK_take l' k hkl
          have hs := takes_succ (putK l') l' k (by rw [putK_len]; exact hkl) hkl
          rw [putK_get l' k hkl] at hs
          generalize (ordL l')[k]'(by rw [ordL_len]; exact hkl) = p at *
          rw [getDK l' p hpl] at ht hs
          have X0 := (hb.cell (p := ⟨bl, ol + p * 2 + 0, none⟩) hbl).trans (hcl p hpl 0 (by omega))
          have X1 := (hb.cell (p := ⟨bl, ol + p * 2 + 1, none⟩) hbl).trans (hcl p hpl 1 (by omega))
          have Y0 := hcl k hkl 0 (by omega)
          have Y1 := hcl k hkl 1 (by omega)
          simp only [eKey, eNat, List.getElem?_cons_zero, List.getElem?_cons_succ, Nat.add_zero] at hpk X0 X1 Y0 Y1
          have hpn : p < n' := by rw [← HN'.out]; exact hpl
          generalize l'[p]'hpl = px at *
          generalize l'[k]'hkl = py at *
          rw [← eKey_eq] at hs
          obtain ⟨px1, px2⟩ := px
          obtain ⟨py1, py2⟩ := py
          simp only at X0 X1 Y0 Y1 hs
          have q1 : (0 : Int) ≤ (k : Int) := by omega
          have q2 : (k : Int) < (n' : Int) := by omega
          have q3 : (0 : Int) ≤ (p : Int) := by omega
          have q4 : (p : Int) < (n' : Int) := by omega
          have q5 : (k : Int) < (k : Int) + 1 := by omega
          have hlk : ((putK l').take k).length = k := by rw [List.length_take, putK_len]; omega
          have HT := Lib.hid ht
          have HLK := Lib.hid hlk
          have HB := Lib.hid hb
          have hW := hb.size
          clear hcp hcl ht hlk hb
          generalize hg : (f1 && decide ((putK l').take k = l'.take k)) = f at *
          have HF : Hid ((f1 && decide ((putK l').take (k + 1) = l'.take (k + 1))) = (f && ((px1 == py1) && (px2 == py2)))) := by
            show _ = _
            rw [hs, ← hg]
            try (first | rfl | rw [Bool.and_assoc])
          clear hg hs
          have hcs : f = false ∨ (px1 = py1 ∧ px2 = py2) ∨ ((px1 == py1) = false) ∨ (px1 = py1 ∧ (px2 == py2) = false) := by
            by_cases e1 : px1 = py1
            · by_cases e2 : px2 = py2
              · exact .inr (.inl ⟨e1, e2⟩)
              · exact .inr (.inr (.inr ⟨e1, by simp [e2]⟩))
            · exact .inr (.inr (.inl (by simp [e1])))
          cases f
          case' true => rcases hcs with hcs | ⟨rfl, rfl⟩ | hcs | ⟨rfl, hcs⟩
          case' true.inl => cases hcs
          case' false => clear hcs
          all_goals
            go_wp2_with (at_builtin; refine wp_append1 elKey w5.heap.size HO.out [.int .i64 px1, .int .u32 px2] rfl (by simp [Value.oneCell']) rfl _ _ rfl rfl _ rfl (by unfold maxLen; omega) (by omega) hW ?_; intro v' w6 hown' hg; have B6 := Lib.hid (below_grown HB.out HO.out hg hW (Nat.le_refl _)); have hown7 : w6.ownsRow w5.heap.size 54 2 v' (k + 1) (((putK l').take (k + 1)).flatMap eKey) := (by rw [HT.out, List.flatMap_append, List.flatMap_cons, List.flatMap_nil, List.append_nil]; exact hown'); obtain ⟨v, c6, rfl, e6, _, hr6⟩ := RdK.of_owns eKey_len (by decide) hown7; have HO7 := Lib.hid hown7; rw [← e6] at HO7; clear hown' hown7 hg; obtain ⟨b6, o6, rfl, hb6, hc6⟩ := hr6.get (by omega); have Z0 := hc6 k (by omega) 0 (by omega); have Z1 := hc6 k (by omega) 1 (by omega); have ez : ((putK l').take (k + 1))[k]'(by omega) = (px1, px2) := (by simp only [HT.out]; rw [List.getElem_append_right (by rw [HLK.out]; exact Nat.le_refl _)]; simp [HLK.out]); rw [ez] at Z0 Z1; simp only [eKey, List.getElem?_cons_zero, List.getElem?_cons_succ, Nat.add_zero] at Z0 Z1; rw [← e6]; have V0 := (B6.out.cell (p := ⟨bl, ol + k * 2, none⟩) hbl).trans Y0; have V1 := (B6.out.cell (p := ⟨bl, ol + k * 2 + 1, none⟩) hbl).trans Y1; clear ez hc6 hr6 e6 Y0 Y1 X0 X1 hpk HT HLK HB HO)
            go_quiet (fail)
            go_wp2
            go_roundw
            case rel => exact ⟨k + 1, by go_num, by omega, by rw [HF.out]; first | rfl | (simp; done) | (rw [hcs]; rfl) | (simp [hcs]; done) | (rw [hcs]; simp), HO7, B6.out.trans ⟨rfl, rfl, rfl, Nat.le_refl _, fun _ _ => rfl⟩⟩
            case measure => simp [intOf]; omega
        · have hkk : n' = k := by omega
          subst hkk
          have T1 : (putK l').take n' = putK l' := by rw [List.take_of_length_le]; rw [putK_len, HN'.out]; exact Nat.le_refl _
          have T2 : l'.take n' = l' := by rw [List.take_of_length_le]; rw [HN'.out]; exact Nat.le_refl _
          rw [T1] at HO
          rw [T1, T2]
          clear T1 T2
          have hg : (f1 && decide (putK l' = l')) = (riseK l && riseK l') := by rw [← HF1.out, putK_dec, putK_dec]
          rw [hg]
          clear hg
          obtain ⟨vy, cy, rfl, hry⟩ := own_sliceK eKey_len (by decide) HO.out
          have RY := Lib.hid hry
          obtain ⟨w6, e6⟩ : ∃ x, x = wr := ⟨_, rfl⟩
          subst e6
          have RX6 := Lib.hid (RX.out.below hb)
          have B6 := bl B5 hb
          have nx : (putK l).length = n := by rw [putK_len, HN.out]
          have ny : (putK l').length = n' := by rw [putK_len, HN'.out]
          have NX := Lib.hid nx
          have NY := Lib.hid ny
          clear hry HO hkn hk Q3 K3 hb B5 HF1 nx ny RX
          have C5 := Lib.hid (copyKeys vx (putK l) n cx w6 NX.out RX6.out (by omega))
          go_wp2_with fail
          refine C5.out.mono ?_
          rintro e w7 ⟨v7, rfl, hown7, hb7⟩
          have RY7 := Lib.hid (RY.out.below hb7)
          have s7 := hb7.size
          clear C5
          go_wp2_with (at_builtin; refine wp_appendK elKey eKey_len eKey_one w6.heap.size hown7 RY7.out rfl _ _ rfl rfl cy (by first | (rw [NY.out]; done) | (rw [NY.out]; rfl)) (by rw [NY.out]; unfold maxLen; omega) (by rw [NY.out]; omega) s7 ?_; intro v8 w8 hown8 hg8; have hb8 := below_grown (Below.refl w6.heap.size w7) hown7 hg8 s7 (Nat.le_refl _); have hb68 := hb7.trans hb8; rw [NY.out, ← List.flatMap_append] at hown8; obtain ⟨va, ca, rfl, hra⟩ := own_sliceK (l := putK l ++ putK l') eKey_len (by decide) hown8; have RX8 := Lib.hid (RX6.out.below hb68); have RY8 := Lib.hid (RY.out.below hb68); have RA8 := Lib.hid hra; have B8 := bl B6 hb68; have s8 := hb68.size; clear hown7 hown8 hg8 hb7 hb8 hra RX6 RY7 RY s7 B6)
          have C6 := Lib.hid (kMergeYesN vx vy (putK l) (putK l') n n' cx cy w8 NX.out NY.out RX8.out RY8.out (by omega) (by omega) (by rw [putK_riseK, putK_riseK]; rfl))
          refine C6.out.mono ?_
          rintro e w9 ⟨am, cm, rfl, hrm, hb9⟩
          have B9 := bl B8 hb9
          have RM9 := Lib.hid hrm
          have C7 := Lib.hid (kOrdN va (putK l ++ putK l') (n + n') ca w9 (by rw [List.length_append, NX.out, NY.out]) (RA8.out.below hb9) (by omega))
          clear C6 hrm RA8 RX8 RY8 hb68 s8 B8 hb9
          go_wp2_with fail
          refine C7.out.mono ?_
          rintro e w10 ⟨ao, co, rfl, _, hown, hb10⟩
          have B10 := bl B9 hb10
          have hro := rd_owned hown
          rw [← ordL_putK_append (putK l) (putK l') (putK_riseK l) (putK_riseK l')] at hro
          have C8 := Lib.hid (intsSame am ao cm co (n + n') (mrgL (putK l) (putK l')) w10 (by rw [mrgL_len, NX.out, NY.out]) (RM9.out.below hb10) hro (by omega))
          clear C7 hro hown RM9 B9 hb10
          generalize wrF (n + n') (n + n') = q9 at *
          go_wp2_with fail
          refine C8.out.mono ?_
          rintro e w11 ⟨rfl, hb11⟩
          have B11 := bl B10 hb11
          clear C8 B10 hb11
          cases hr : (riseK l && riseK l')
          · have C9 := Lib.hid (kMergeNoN a a' l l' n n' c c' w11 HN.out HN'.out (H.out.below B11) (H'.out.below B11) (by omega) (by omega) hr)
            clear hr
            go_wp2_with fail
            refine C9.out.mono ?_
            rintro e w12 ⟨rfl, hb12⟩
            have B12 := bl B11 hb12
            clear C9
            go_wp2_with fail
            refine (AW.out w12).mono ?_
            rintro e w13 ⟨rfl, hb13⟩
            go_wp2_with fail
            go_ret
            exact ⟨rfl, bl B12 hb13⟩
          · have C9 := Lib.hid (kMergeYesN a a' l l' n n' c c' w11 HN.out HN'.out (H.out.below B11) (H'.out.below B11) (by omega) (by omega) hr)
            clear hr
            go_wp2_with fail
            refine C9.out.mono ?_
            rintro e w12 ⟨az, cz, rfl, _, hb12⟩
            have B12 := bl B11 hb12
            clear C9
            go_wp2_with fail
            refine (AW.out w12).mono ?_
            rintro e w13 ⟨rfl, hb13⟩
            go_wp2_with fail
            go_ret
            exact ⟨rfl, bl B12 hb13⟩

end Go.Proofs.Ytlhmipjbpbbcbaa
