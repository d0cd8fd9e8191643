/- The walk of the law SortWork. -/
import Derived.Test.YtlhmipjbpbbcbaaKeyW
namespace Go.Proofs.Ytlhmipjbpbbcbaa
open Go.RowKit

theorem kOrdN (a : Option Addr) (l : List (Int × Int)) (n c : Nat) (w : World) (hn : l.length = n) (h : RdK eKey 2 w a l) (hl : n ≤ 200000) :
    Calls Try.prog 29 #[.slice a n c] w fun e w' => ∃ a' c', e = .returned (.tuple #[.slice a' n c', .int .i64 (wrF n n), .int .i64 0]) ∧ n ≤ c' ∧
      w'.ownsRow w.heap.size 3 1 (.slice a' n c') n ((ordL l).map eNat) ∧ Below w.heap.size w w' := by
  subst hn
  exact kOrd a l c w h hl

theorem wrF_fuel : ∀ (f g n : Nat), n ≤ f → n ≤ g → wrF f n = wrF g n
  | 0, 0, _, _, _ => rfl
  | 0, g + 1, n, h, _ => by
    obtain rfl : n = 0 := by omega
    simp [wrF]
  | f + 1, 0, n, _, h => by
    obtain rfl : n = 0 := by omega
    simp [wrF]
  | f + 1, g + 1, n, h1, h2 => by
    simp only [wrF]
    split
    · rfl
    · rw [wrF_fuel f g _ (by omega) (by omega), wrF_fuel f g _ (by omega) (by omega)]

theorem wrF_split (n : Nat) (h : 2 ≤ n) : wrF n n = wrF (n / 2) (n / 2) + wrF (n - n / 2) (n - n / 2) + n := by
  obtain ⟨f, rfl⟩ : ∃ f, n = f + 1 := ⟨n - 1, by omega⟩
  conv => lhs; unfold wrF
  rw [if_neg (by omega), wrF_fuel f ((f + 1) / 2) _ (by omega) (by omega), wrF_fuel f (f + 1 - (f + 1) / 2) _ (by omega) (by omega)]

theorem wrF_log : ∀ (h f n : Nat), n ≤ 2 ^ h → n ≤ f → wrF f n ≤ n * h
  | 0, f, n, hn, hf => by
    have : n ≤ 1 := by simpa using hn
    cases f with
    | zero => simp [wrF]
    | succ f => simp [wrF, show n / 2 = 0 by omega]
  | h + 1, f, n, hn, hf => by
    cases f with
    | zero => simp [wrF]
    | succ f =>
      simp only [wrF]
      split
      · exact Nat.zero_le _
      · rw [Nat.pow_succ] at hn
        have h1 := wrF_log h f (n / 2) (by omega) (by omega)
        have h2 := wrF_log h f (n - n / 2) (by omega) (by omega)
        have h3 : (n / 2) * h + (n - n / 2) * h = n * h := by rw [← Nat.add_mul]; congr 1; omega
        rw [Nat.mul_succ]
        omega

set_option maxRecDepth 100000 in
set_option maxHeartbeats 2000000 in
theorem wSortWork (a : Option Addr) (l : List (Int × Int)) (n c : Nat) (w : World) (hn : l.length = n) (h : RdK eKey 2 w a l) (hnc : n ≤ c) (hc : c ≤ 9223372036854775807) :
    Calls Try.prog 12 #[.slice a n c] w fun e w' => e = .returned (.bool true) ∧ Below w.heap.size w w' := by
  have AW := Lib.hid awake03
  have HN := Lib.hid hn
  have H := Lib.hid h
  clear hn h
  by_cases h3000 : 3000 < n
  · go_enter Try.func12, Try.ntmps12
    go_wp2_with fail
    refine (AW.out w).mono ?_
    rintro e w1 ⟨rfl, hb⟩
    go_wp2_with fail
    go_ret
    exact ⟨rfl, hb⟩
  · by_cases h2 : 2 ≤ n
    · have hs := wrF_split n h2
      have hlog := Lib.hid (fun k (hk : n ≤ 2 ^ k) => wrF_log k n n hk (Nat.le_refl _))
      have g1 := wrF_le (n / 2) (n / 2)
      have g2 := wrF_le (n - n / 2) (n - n / 2)
      have g3 : n / 2 * (n / 2) ≤ 3000 * 3000 := Nat.mul_le_mul (by omega) (by omega)
      have g4 : (n - n / 2) * (n - n / 2) ≤ 3000 * 3000 := Nat.mul_le_mul (by omega) (by omega)
      obtain ⟨b, off, rfl, hbl, _⟩ := H.out.get (by rw [HN.out]; omega)
      have C1 := Lib.hid (kOrdN (some ⟨b, off, none⟩) l n c w HN.out H.out (by omega))
      have C2 := Lib.hid (fun W (hb : Below w.heap.size w W) => kOrdN (some ⟨b, off, none⟩) (l.take (n / 2)) (n / 2) c W (by rw [List.length_take, HN.out]; omega) ((H.out.below hb).take _) (by omega))
      have C3 := Lib.hid (fun W (hb : Below w.heap.size w W) => kOrdN (some ⟨b, off + n / 2 * 2, none⟩) (l.drop (n / 2)) (n - n / 2) (c - n / 2) W (by rw [List.length_drop, HN.out]) ((H.out.below hb).drop _) (by omega))
      have e2 : ((n : Int) / 2).toNat = n / 2 := by omega
      have hcn : ¬ c = n / 2 := by omega
      have hc0 : ¬ c = 0 := by omega
      generalize wrF n n = q at *
      generalize wrF (n / 2) (n / 2) = q1 at *
      generalize wrF (n - n / 2) (n - n / 2) = q2 at *
      have hq1 : q1 ≤ 9000000 := by omega
      have hq2 : q2 ≤ 9000000 := by omega
      clear g1 g2 g3 g4
      subst hs
      go_enter Try.func12, Try.ntmps12
      go_wp2_with fail
      refine C1.out.mono ?_
      rintro e w1 ⟨a1, c1, rfl, _, _, hb1⟩
      clear C1
      go_wp2_with fail
      refine (C2.out w1 hb1).mono ?_
      rintro e w2 ⟨a2, c2, rfl, _, _, hb2⟩
      have B2 := bl hb1 hb2
      clear C2
      go_wp2_with fail
      refine (C3.out w2 B2).mono ?_
      rintro e w3 ⟨a3, c3, rfl, _, _, hb3⟩
      have B3 := bl B2 hb3
      clear C3
      go_wp2
      go_loopw [12, 13] (fun hh left wr => ∃ k p : Nat, hh = .int .i64 k ∧ left = .int .i64 p ∧ 1 ≤ p ∧ p ≤ 2 * n ∧ k ≤ 40 ∧ Hid (p = 2 ^ k) ∧ Below w3.heap.size w3 wr) (fun _ left _ => 2 * n - (intOf left).toNat)
      case atStart => exact ⟨0, 1, rfl, rfl, Nat.le_refl _, by omega, by omega, rfl, Below.refl _ _⟩
      case round =>
        obtain ⟨k, p, rfl, rfl, hp1, hp2, hk, E, hb4⟩ := hrel
        by_cases hlt : p < n
        · have hk2 : k < 39 := by
            have := E.out
            have h9 : 2 ^ k < 2 ^ 39 := by omega
            exact (Nat.pow_lt_pow_iff_right (by decide)).1 h9
          have E2 : Hid (p * 2 = 2 ^ (k + 1)) := by have := E.out; show p * 2 = 2 ^ (k + 1); rw [Nat.pow_succ]; omega
          clear E hlog
          go_wp2
          go_roundw
          case rel => exact ⟨k + 1, p * 2, by go_num, by go_num, by omega, by omega, by omega, E2, hb4⟩
          case measure => simp [intOf]; omega
        · have hl := hlog.out k (by have := E.out; omega)
          have hl2 : (q1 : Int) + (q2 : Int) + (n : Int) ≤ (n : Int) * (k : Int) := by exact_mod_cast hl
          have hb3' : (n : Int) * (k : Int) ≤ 120000 := by
            have := Nat.mul_le_mul (show n ≤ 3000 by omega) hk
            have h8 : ((n * k : Nat) : Int) ≤ ((3000 * 40 : Nat) : Int) := by exact_mod_cast this
            simpa using h8
          have hb4' : (0 : Int) ≤ (n : Int) * (k : Int) := by exact_mod_cast Nat.zero_le (n * k)
          have hd : decide ((q1 : Int) + (q2 : Int) + (n : Int) ≤ (n : Int) * (k : Int)) = true := by simp [hl2]
          have V1 : IntKind.i64.wrap ((n : Int) * (k : Int)) = (n : Int) * (k : Int) := IntWalk.i64_in _ ⟨by omega, by omega⟩
          clear hl hlog E
          go_wp2_with fail
          refine (AW.out wr).mono ?_
          rintro e w5 ⟨rfl, hb5⟩
          go_wp2_with fail
          go_ret
          exact ⟨rfl, bl (bl B3 hb4) hb5⟩
    · have e0 : wrF n n = 0 := by
        have : n = 0 ∨ n = 1 := by omega
        rcases this with rfl | rfl <;> simp [wrF]
      have C1 := kOrdN a l n c w HN.out H.out (by omega)
      rw [e0] at C1
      have CC := Lib.hid C1
      have C2 := Lib.hid (fun x W => kOrdN x [] 0 c W rfl .nil (by omega))
      have hz : wrF 0 0 = 0 := rfl
      rw [hz] at C2
      clear C1 hz
      have hcases : n = 0 ∨ n = 1 := by omega
      rcases hcases with rfl | rfl
      · go_enter Try.func12, Try.ntmps12
        go_wp2_with fail
        refine CC.out.mono ?_
        rintro e w1 ⟨a1, c1, rfl, _, _, hb1⟩
        clear CC
        go_wp2_with fail
        refine (C2.out _ w1).mono ?_
        rintro e w2 ⟨a2, c2, rfl, _, _, hb2⟩
        have B2 := bl hb1 hb2
        go_wp2_with fail
        refine (C2.out _ w2).mono ?_
        rintro e w3 ⟨a3, c3, rfl, _, _, hb3⟩
        have B3 := bl B2 hb3
        go_wp2_with fail
        refine (AW.out w3).mono ?_
        rintro e w5 ⟨rfl, hb5⟩
        go_wp2_with fail
        go_ret
        exact ⟨rfl, bl B3 hb5⟩
      · obtain ⟨b, off, rfl, hbl, _⟩ := H.out.get (by rw [HN.out]; omega)
        have hc0 : ¬ c = 0 := by omega
        have C3 := Lib.hid (fun W (hb : Below w.heap.size w W) => kOrdN (some ⟨b, off, none⟩) l 1 c W HN.out (H.out.below hb) (by omega))
        rw [e0] at C3
        go_enter Try.func12, Try.ntmps12
        go_wp2_with fail
        refine CC.out.mono ?_
        rintro e w1 ⟨a1, c1, rfl, _, _, hb1⟩
        clear CC
        go_wp2_with fail
        refine (C2.out _ w1).mono ?_
        rintro e w2 ⟨a2, c2, rfl, _, _, hb2⟩
        have B2 := bl hb1 hb2
        go_wp2_with fail
        refine (C3.out w2 B2).mono ?_
        rintro e w3 ⟨a3, c3, rfl, _, _, hb3⟩
        have B3 := bl B2 hb3
        go_wp2_with fail
        refine (AW.out w3).mono ?_
        rintro e w5 ⟨rfl, hb5⟩
        go_wp2_with fail
        go_ret
        exact ⟨rfl, bl B3 hb5⟩

end Go.Proofs.Ytlhmipjbpbbcbaa
