/- gridironref03: Written, Rises, Order, Merge, Once: what they answer. -/
import Derived.Test.YtlhmipjbpbbcbaaKeyU
import Derived.Test.YtlhmipjbpbbcbaaKeyL3
import Derived.Test.YtlhmipjbpbbcbaaIns
import Derived.Test.YtlhmipjbpbbcbaaRankAw
namespace Go.Proofs.Ytlhmipjbpbbcbaa
open Go.RowKit

theorem refWritten : ∀ (f n : Nat), n ≤ f → n ≤ 100000 → ∀ w : World, Calls Try.prog 52 #[.int .i64 n] w fun e w' => e = .returned (.int .i64 (wrF n n)) ∧ w' = w := by
  intro f
  induction f with
  | zero =>
    intro n hn _ w
    obtain rfl : n = 0 := by omega
    rw [show wrF 0 0 = 0 from rfl]
    go_enter Try.func52, Try.ntmps52
    go_wp2
    go_ret
    exact ⟨rfl, rfl⟩
  | succ f ih =>
    intro n hn hn2 w
    by_cases h2 : 2 ≤ n
    · have hs := wrF_split n h2
      have g1 := wrF_le (n / 2) (n / 2)
      have g2 := wrF_le (n - n / 2) (n - n / 2)
      have g3 : n / 2 * (n / 2) ≤ 100000 * 100000 := Nat.mul_le_mul (by omega) (by omega)
      have g4 : (n - n / 2) * (n - n / 2) ≤ 100000 * 100000 := Nat.mul_le_mul (by omega) (by omega)
      have I1 := Lib.hid (ih (n / 2) (by omega) (by omega))
      have I2 := Lib.hid (ih (n - n / 2) (by omega) (by omega))
      generalize wrF n n = q at *
      generalize wrF (n / 2) (n / 2) = q1 at *
      generalize wrF (n - n / 2) (n - n / 2) = q2 at *
      have hq1 : q1 ≤ 10000000000 := by omega
      have hq2 : q2 ≤ 10000000000 := by omega
      have e3 : ((n : Int) / 2) = ((n / 2 : Nat) : Int) := by omega
      have e4 : (n : Int) - ((n / 2 : Nat) : Int) = ((n - n / 2 : Nat) : Int) := by omega
      have e3' := Lib.hid e3
      have e4' := Lib.hid e4
      clear g1 g2 g3 g4 ih e3 e4
      subst hs
      go_enter Try.func52, Try.ntmps52
      go_wp2_with fail
      rw [e3'.out]
      refine (I1.out w).mono ?_
      rintro e w1 ⟨rfl, rfl⟩
      go_wp2_with fail
      rw [e3'.out, e4'.out]
      refine (I2.out _).mono ?_
      rintro e w2 ⟨rfl, rfl⟩
      go_wp2
      go_ret
      exact ⟨ret_int (by push_cast; omega), rfl⟩
    · have e0 : wrF n n = 0 := by
        have : n = 0 ∨ n = 1 := by omega
        rcases this with rfl | rfl <;> simp [wrF]
      rw [e0]
      clear ih e0
      go_enter Try.func52, Try.ntmps52
      go_wp2
      go_ret
      exact ⟨rfl, rfl⟩

set_option maxRecDepth 100000 in
set_option maxHeartbeats 1000000 in
theorem refRises (a : Option Addr) (l : List (Int × Int)) (n c : Nat) (w : World) (hn : l.length = n) (h : RdK eKey 2 w a l) (hl : n ≤ 200000) :
    Calls Try.prog 57 #[.slice a n c] w fun e w' => e = .returned (.bool (riseK l)) ∧ Below w.heap.size w w' := by
  have H := Lib.hid h
  have HN := Lib.hid hn
  have HB := Lib.hid (riseK_bool l)
  clear h hn
  generalize riseK l = r at *
  go_enter Try.func57, Try.ntmps57
  go_wp2
  go_loopw [3] (fun iv wr => ∃ k : Nat, iv = .int .i64 ((k : Int) + 1) ∧ k ≤ n ∧ Below w.heap.size w wr ∧ Hid (∀ i (h : i + 1 < l.length), i < k → 0 ≤ ordK l[i + 1] l[i])) (fun iv _ => n + 1 - (intOf iv).toNat)
  case atStart => exact ⟨0, rfl, Nat.zero_le _, Below.refl _ _, fun i _ h2 => absurd h2 (Nat.not_lt_zero _)⟩
  case round =>
    obtain ⟨k, rfl, hk, hb, I⟩ := hrel
    by_cases hlt : k + 1 < n
    · obtain ⟨b, off, ea, hbl, hc⟩ := (H.out.below hb).get (by rw [HN.out]; omega)
      have hl1 : k + 1 < l.length := by rw [HN.out]; omega
      have hl2 : k < l.length := by omega
      have x0 := hc (k + 1) hl1 0 (by omega)
      have x1 := hc (k + 1) hl1 1 (by omega)
      have y0 := hc k hl2 0 (by omega)
      have y1 := hc k hl2 1 (by omega)
      simp only [eKey, List.getElem?_cons_zero, List.getElem?_cons_succ, Nat.add_zero] at x0 x1 y0 y1
      have e1 : ((k : Int) + 1).toNat = k + 1 := by omega
      have e2 : ((k : Int) + 1 - 1).toNat = k := by omega
      have g1 : (0 : Int) ≤ (k : Int) + 1 := by omega
      have g2 : (k : Int) + 1 < (n : Int) := by omega
      have g3 : (k : Int) < (n : Int) := by omega
      have X0 := cell_belowW x0
      have X1 := cell_belowW x1
      have Y0 := cell_belowW y0
      have Y1 := cell_belowW y1
      have C := Lib.hid (fun W => kAhead l[k + 1] l[k] W)
      by_cases ho : ordK l[k + 1] l[k] < 0
      · have hr : r = false := by
          exact HB.out false ⟨(fun h => by cases h), (fun h => absurd (h k hl1) (by omega))⟩
        have hd : decide (ordK l[k + 1] l[k] < 0) = true := by simp [ho]
        subst hr
        clear hc HB I H x0 x1 y0 y1
        generalize ordK l[k + 1] l[k] = q at *
        generalize l[k + 1] = x at *
        generalize l[k] = y at *
        subst ea
        go_wp2
        have V1 : IntKind.i64.wrap (k : Int) = (k : Int) := IntWalk.i64_in _ (by omega)
        refine wp_region_below (by kernel_rfl) (by kernel_rfl) ?_
        repeat (quiet_step ((go_at_call 65; exact calls_below (C.out _))))
        refine wpQuiet_nil ?_
        clear V1
        intro w5 hw'
        have hb5 : Below wr.heap.size wr w5 := by obtain ⟨p, rfl⟩ := hw'; exact p.h
        clear hw'
        go_wp2
        go_ret
        exact ⟨rfl, hb.trans (hb5.mono hb.size)⟩
      · have I2 : Hid (∀ i (h : i + 1 < l.length), i < k + 1 → 0 ≤ ordK l[i + 1] l[i]) := by
          intro i h hki
          by_cases e : i = k
          · subst e; omega
          · exact I.out i h (by omega)
        have hd : decide (ordK l[k + 1] l[k] < 0) = false := by simp; omega
        clear hc x0 x1 y0 y1 I
        generalize ordK l[k + 1] l[k] = q at *
        generalize l[k + 1] = x at *
        generalize l[k] = y at *
        subst ea
        go_wp2
        have V1 : IntKind.i64.wrap (k : Int) = (k : Int) := IntWalk.i64_in _ (by omega)
        refine wp_region_below (by kernel_rfl) (by kernel_rfl) ?_
        repeat (quiet_step ((go_at_call 65; exact calls_below (C.out _))))
        refine wpQuiet_nil ?_
        clear V1
        intro w5 hw'
        have hb5 : Below wr.heap.size wr w5 := by obtain ⟨p, rfl⟩ := hw'; exact p.h
        clear hw'
        go_wp2
        go_roundw
        case rel => exact ⟨k + 1, by go_num, by omega, hb.trans (hb5.mono hb.size), I2⟩
        case measure => simp [intOf]; omega
    · have hr : r = true := HB.out true ⟨fun _ i h => I.out i h (by rw [HN.out] at h; omega), fun _ => rfl⟩
      have g2 : ¬ ((k : Int) + 1 < (n : Int)) := by omega
      subst hr
      clear HB I H
      go_wp2
      go_ret
      exact ⟨rfl, hb⟩

set_option maxRecDepth 100000 in
theorem refOrder (a : Option Addr) (l : List (Int × Int)) (n c : Nat) (w : World) (hn : l.length = n) (h : RdK eKey 2 w a l) (hl : n ≤ 100000) :
    Calls Try.prog 30 #[.slice a n c] w fun e w' => ∃ v, e = .returned (.tuple #[v, .int .i64 (wrF n n), .int .i64 0]) ∧ w'.ownsRow w.heap.size 3 1 v n ((ordL l).map eNat) ∧ Below w.heap.size w w' := by
  have P1 := Lib.hid (refPlaces a l n c w hn h (by omega))
  have P2 := Lib.hid (refWritten n n (Nat.le_refl _) hl)
  clear h hn
  generalize wrF n n = q at *
  go_enter Try.func30, Try.ntmps30
  go_wp2_with fail
  refine P1.out.mono ?_
  rintro e w1 ⟨v, rfl, hown, hb⟩
  have HO := Lib.hid hown
  clear hown
  go_wp2_with fail
  refine (P2.out _).mono ?_
  rintro e w2 ⟨rfl, rfl⟩
  go_wp2
  go_ret3
  exact ⟨v, rfl, HO.out, hb⟩

set_option maxRecDepth 100000 in
set_option maxHeartbeats 1000000 in
theorem refMergeNo (a a' : Option Addr) (l l' : List (Int × Int)) (n n' c c' : Nat) (w : World) (hn : l.length = n) (hn' : l'.length = n') (h : RdK eKey 2 w a l) (h' : RdK eKey 2 w a' l') (hl : n ≤ 50000) (hl' : n' ≤ 50000) (hr : (riseK l && riseK l') = false) :
    Calls Try.prog 33 #[.slice a n c, .slice a' n' c'] w fun e w' => e = .returned (.tuple #[.slice none 0 0, .int .i64 0, .int .i64 2]) ∧ Below w.heap.size w w' := by
  have P1 := Lib.hid (refRises a l n c w hn h (by omega))
  have P2 := Lib.hid (fun W (hb : Below w.heap.size w W) => refRises a' l' n' c' W hn' (h'.below hb) (by omega))
  clear h hn h' hn'
  generalize riseK l = r1 at *
  generalize riseK l' = r2 at *
  cases r1
  · clear hr
    go_enter Try.func33, Try.ntmps33
    go_wp2_with fail
    refine P1.out.mono ?_
    rintro e w1 ⟨rfl, hb⟩
    go_wp2_with fail
    go_ret3
    exact ⟨rfl, hb⟩
  · simp only [Bool.true_and] at hr
    subst hr
    go_enter Try.func33, Try.ntmps33
    go_wp2_with fail
    refine P1.out.mono ?_
    rintro e w1 ⟨rfl, hb⟩
    go_wp2_with fail
    refine (P2.out _ hb).mono ?_
    rintro e w2 ⟨rfl, hb2⟩
    go_wp2_with fail
    go_ret3
    exact ⟨rfl, bl hb hb2⟩

set_option maxRecDepth 100000 in
set_option maxHeartbeats 1000000 in
theorem refMergeYes (a a' : Option Addr) (l l' : List (Int × Int)) (n n' c c' : Nat) (w : World) (hn : l.length = n) (hn' : l'.length = n') (h : RdK eKey 2 w a l) (h' : RdK eKey 2 w a' l') (hl : n ≤ 50000) (hl' : n' ≤ 50000) (hr : (riseK l && riseK l') = true) :
    Calls Try.prog 33 #[.slice a n c, .slice a' n' c'] w fun e w' => ∃ v, e = .returned (.tuple #[v, .int .i64 (n + n' : Nat), .int .i64 0]) ∧ w'.ownsRow w.heap.size 3 1 v (n + n') ((mrgL l l').map eNat) ∧ Below w.heap.size w w' := by
  subst hn hn'
  simp only [Bool.and_eq_true] at hr
  have HM := Lib.hid (ordL_putK_append l l' hr.1 hr.2)
  have P1 := refRises a l _ c w rfl h (by omega)
  have P2 := fun W (hb : Below w.heap.size w W) => refRises a' l' _ c' W rfl (h'.below hb) (by omega)
  rw [hr.1] at P1
  rw [hr.2] at P2
  have Q1 := Lib.hid P1
  have Q2 := Lib.hid P2
  have H := Lib.hid h
  have H' := Lib.hid h'
  clear h h' hr P1 P2
  generalize mrgL l l' = M at *
  go_enter Try.func33, Try.ntmps33
  go_wp2_with fail
  refine Q1.out.mono ?_
  rintro e w1 ⟨rfl, hb⟩
  go_wp2_with fail
  refine (Q2.out _ hb).mono ?_
  rintro e w2 ⟨rfl, hb2⟩
  have B2 := bl hb hb2
  clear hb hb2 Q1 Q2
  have hs2 := B2.size
  have hown := World.ownsRow_made (e := 54) (size := 2) w2 #[] 0 (Nat.le_refl _) (Nat.zero_le _) rfl
  have b3 : Below w2.heap.size w2 (w2.alloc (.cells #[] 54)) := (Below.refl _ _).alloc (Nat.le_refl _) _
  have hA := H.out.below (bl B2 b3)
  have H2 : Hid (RdK eKey 2 w2 a' l') := H'.out.below B2
  go_wp2_with (first
    | (at_builtin; refine wp_appendK elKey eKey_len eKey_one w2.heap.size hown hA rfl (.tmp 22) (.tmp 23) rfl rfl c rfl (by unfold maxLen; omega) (by omega) (by simp) ?_; intro v4 w4 hown4 hg4; have b4 := below_grown b3 hown hg4 (by simp) (Nat.le_refl _); have hA4 := H2.out.below b4)
    | (at_builtin; refine wp_appendK elKey eKey_len eKey_one w2.heap.size hown4 hA4 rfl (.tmp 24) (.tmp 25) rfl rfl c' rfl (by unfold maxLen; omega) (by omega) (by exact b4.size) ?_; intro v5 w5 hown5 hg5; have b5 := below_grown b4 hown4 hg5 b4.size (Nat.le_refl _)))
  have hown6 : w5.ownsRow w2.heap.size 54 2 v5 (l.length + l'.length) ((l ++ l').flatMap eKey) := by
    rw [List.flatMap_append]
    simpa using hown5
  obtain ⟨a5, c5, rfl, hr5⟩ := own_sliceK eKey_len (by decide) hown6
  have P3 := refPlaces a5 (l ++ l') (l.length + l'.length) c5 w5 (by simp) hr5 (by omega)
  rw [← HM.out] at P3
  have Q3 := Lib.hid P3
  have B5 := bl B2 b5
  clear P3 hown4 hg4 hA4 hown5 hg5 hown6 hr5 hown hA b3 b4 b5 HM H H' H2
  go_wp2_with fail
  refine Q3.out.mono ?_
  rintro e w6 ⟨v6, rfl, hown6, hb6⟩
  have HO6 := Lib.hid (ownsRow_mono (base' := w.heap.size) hown6 B5.size)
  clear hown6
  go_wp2_with fail
  go_ret3
  exact ⟨_, rfl, HO6.out, bl B5 hb6⟩

end Go.Proofs.Ytlhmipjbpbbcbaa
