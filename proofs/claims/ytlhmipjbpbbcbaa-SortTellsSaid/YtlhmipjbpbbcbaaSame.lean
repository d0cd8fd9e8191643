/- The functions of gridironlow that hold two lists of numbers against each other: each answers whether they are the same. -/
import Derived.Test.YtlhmipjbpbbcbaaBase
namespace Go.Proofs.Ytlhmipjbpbbcbaa
open Go.RowKit

set_option maxRecDepth 100000 in
set_option maxHeartbeats 400000 in
theorem same_ints (a a' : Option Addr) (l l' : List Int) (c c' : Nat) (w : World) (h : Rd (.int .i64) w a l) (h' : Rd (.int .i64) w a' l') (hl : l.length ≤ 4611686018427387904) (hl' : l'.length ≤ 4611686018427387904) :
    Calls Try.prog 31 #[.slice a l.length c, .slice a' l'.length c'] w fun e w' => e = .returned (.bool (decide (l = l'))) ∧ Below w.heap.size w w' := by
  have H := Lib.hid h; have H' := Lib.hid h'; clear h h'
  generalize hr : decide (l = l') = r
  have HR := Lib.hid hr; clear hr
  go_enter Try.func31, Try.ntmps31
  go_wp2
  go_loopw [5] (fun i wr => ∃ k : Nat, i = .int .i64 k ∧ k ≤ l.length ∧ k ≤ l'.length ∧ Below w.heap.size w wr ∧ Hid (l.take k = l'.take k)) (fun i _ => l.length - (intOf i).toNat)
  case atStart => exact ⟨0, rfl, Nat.zero_le _, Nat.zero_le _, Below.refl _ _, rfl⟩
  case round =>
    obtain ⟨k, rfl, hk1, hk2, hb, I⟩ := hrel
    by_cases hlt : k < l.length
    · by_cases hlt' : k < l'.length
      · obtain ⟨b, off, rfl, hbl, hc⟩ := (H.out.below hb).get (by omega)
        obtain ⟨b', off', rfl, hbl', hc'⟩ := (H'.out.below hb).get (by omega)
        have hc1 := hc k hlt
        have hc1' := hc' k hlt'
        clear hc hc' H H'
        by_cases hx : l[k] = l'[k]
        · have I2 := Lib.hid (take_more l l' k I.out hlt hlt' hx)
          have HX : (l[k] != l'[k]) = false := by simp [hx]
          clear hx I
          generalize l[k] = x at *
          generalize l'[k] = y at *
          go_wp2
          go_quiet (fail)
          go_wp2
          go_roundw
          case rel => exact ⟨k + 1, by go_num, by omega, by omega, by first | exact hb.drew | exact hb.trans ⟨rfl, rfl, rfl, Nat.le_refl _, fun _ _ => rfl⟩, I2.out⟩
          case measure => simp [intOf]; omega
        · have HR2 := ne_of_at l l' k hlt hlt' hx
          rw [HR.out] at HR2
          subst HR2
          have HX : (l[k] != l'[k]) = true := by simp [hx]
          clear hx I HR
          generalize l[k] = x at *
          generalize l'[k] = y at *
          go_wp2
          go_quiet (fail)
          go_wp2
          go_ret
          exact ⟨rfl, by first | exact hb.drew | exact hb.trans ⟨rfl, rfl, rfl, Nat.le_refl _, fun _ _ => rfl⟩⟩
      · have HR2 := eq_of_pre l l' k I.out (by omega)
        rw [HR.out] at HR2
        clear H H' HR I
        go_wp2
        go_ret
        exact ⟨ret_bool (by rw [HR2]; first | rfl | simp), hb⟩
    · have HR2 := eq_of_pre l l' k I.out (by omega)
      rw [HR.out] at HR2
      clear H H' HR I
      go_wp2
      go_ret
      exact ⟨ret_bool (by rw [HR2]; first | rfl | simp), hb⟩

set_option maxRecDepth 100000 in
set_option maxHeartbeats 400000 in
theorem same_longs (a a' : Option Addr) (l l' : List Int) (c c' : Nat) (w : World) (h : Rd (.int .i64) w a l) (h' : Rd (.int .i64) w a' l') (hl : l.length ≤ 4611686018427387904) (hl' : l'.length ≤ 4611686018427387904) :
    Calls Try.prog 21 #[.slice a l.length c, .slice a' l'.length c'] w fun e w' => e = .returned (.bool (decide (l = l'))) ∧ Below w.heap.size w w' := by
  have H := Lib.hid h; have H' := Lib.hid h'; clear h h'
  generalize hr : decide (l = l') = r
  have HR := Lib.hid hr; clear hr
  go_enter Try.func21, Try.ntmps21
  go_wp2
  go_loopw [5] (fun i wr => ∃ k : Nat, i = .int .i64 k ∧ k ≤ l.length ∧ k ≤ l'.length ∧ Below w.heap.size w wr ∧ Hid (l.take k = l'.take k)) (fun i _ => l.length - (intOf i).toNat)
  case atStart => exact ⟨0, rfl, Nat.zero_le _, Nat.zero_le _, Below.refl _ _, rfl⟩
  case round =>
    obtain ⟨k, rfl, hk1, hk2, hb, I⟩ := hrel
    by_cases hlt : k < l.length
    · by_cases hlt' : k < l'.length
      · obtain ⟨b, off, rfl, hbl, hc⟩ := (H.out.below hb).get (by omega)
        obtain ⟨b', off', rfl, hbl', hc'⟩ := (H'.out.below hb).get (by omega)
        have hc1 := hc k hlt
        have hc1' := hc' k hlt'
        clear hc hc' H H'
        by_cases hx : l[k] = l'[k]
        · have I2 := Lib.hid (take_more l l' k I.out hlt hlt' hx)
          have HX : (l[k] != l'[k]) = false := by simp [hx]
          clear hx I
          generalize l[k] = x at *
          generalize l'[k] = y at *
          go_wp2
          go_quiet (fail)
          go_wp2
          go_roundw
          case rel => exact ⟨k + 1, by go_num, by omega, by omega, by first | exact hb.drew | exact hb.trans ⟨rfl, rfl, rfl, Nat.le_refl _, fun _ _ => rfl⟩, I2.out⟩
          case measure => simp [intOf]; omega
        · have HR2 := ne_of_at l l' k hlt hlt' hx
          rw [HR.out] at HR2
          subst HR2
          have HX : (l[k] != l'[k]) = true := by simp [hx]
          clear hx I HR
          generalize l[k] = x at *
          generalize l'[k] = y at *
          go_wp2
          go_quiet (fail)
          go_wp2
          go_ret
          exact ⟨rfl, by first | exact hb.drew | exact hb.trans ⟨rfl, rfl, rfl, Nat.le_refl _, fun _ _ => rfl⟩⟩
      · have HR2 := eq_of_pre l l' k I.out (by omega)
        rw [HR.out] at HR2
        clear H H' HR I
        go_wp2
        go_ret
        exact ⟨ret_bool (by rw [HR2]; first | rfl | simp), hb⟩
    · have HR2 := eq_of_pre l l' k I.out (by omega)
      rw [HR.out] at HR2
      clear H H' HR I
      go_wp2
      go_ret
      exact ⟨ret_bool (by rw [HR2]; first | rfl | simp), hb⟩

set_option maxRecDepth 100000 in
set_option maxHeartbeats 400000 in
theorem same_names (a a' : Option Addr) (l l' : List Int) (c c' : Nat) (w : World) (h : Rd (.int .u32) w a l) (h' : Rd (.int .u32) w a' l') (hl : l.length ≤ 4611686018427387904) (hl' : l'.length ≤ 4611686018427387904) :
    Calls Try.prog 34 #[.slice a l.length c, .slice a' l'.length c'] w fun e w' => e = .returned (.bool (decide (l = l'))) ∧ Below w.heap.size w w' := by
  have H := Lib.hid h; have H' := Lib.hid h'; clear h h'
  generalize hr : decide (l = l') = r
  have HR := Lib.hid hr; clear hr
  go_enter Try.func34, Try.ntmps34
  go_wp2
  go_loopw [5] (fun i wr => ∃ k : Nat, i = .int .i64 k ∧ k ≤ l.length ∧ k ≤ l'.length ∧ Below w.heap.size w wr ∧ Hid (l.take k = l'.take k)) (fun i _ => l.length - (intOf i).toNat)
  case atStart => exact ⟨0, rfl, Nat.zero_le _, Nat.zero_le _, Below.refl _ _, rfl⟩
  case round =>
    obtain ⟨k, rfl, hk1, hk2, hb, I⟩ := hrel
    by_cases hlt : k < l.length
    · by_cases hlt' : k < l'.length
      · obtain ⟨b, off, rfl, hbl, hc⟩ := (H.out.below hb).get (by omega)
        obtain ⟨b', off', rfl, hbl', hc'⟩ := (H'.out.below hb).get (by omega)
        have hc1 := hc k hlt
        have hc1' := hc' k hlt'
        clear hc hc' H H'
        by_cases hx : l[k] = l'[k]
        · have I2 := Lib.hid (take_more l l' k I.out hlt hlt' hx)
          have HX : (l[k] != l'[k]) = false := by simp [hx]
          clear hx I
          generalize l[k] = x at *
          generalize l'[k] = y at *
          go_wp2
          go_quiet (fail)
          go_wp2
          go_roundw
          case rel => exact ⟨k + 1, by go_num, by omega, by omega, by first | exact hb.drew | exact hb.trans ⟨rfl, rfl, rfl, Nat.le_refl _, fun _ _ => rfl⟩, I2.out⟩
          case measure => simp [intOf]; omega
        · have HR2 := ne_of_at l l' k hlt hlt' hx
          rw [HR.out] at HR2
          subst HR2
          have HX : (l[k] != l'[k]) = true := by simp [hx]
          clear hx I HR
          generalize l[k] = x at *
          generalize l'[k] = y at *
          go_wp2
          go_quiet (fail)
          go_wp2
          go_ret
          exact ⟨rfl, by first | exact hb.drew | exact hb.trans ⟨rfl, rfl, rfl, Nat.le_refl _, fun _ _ => rfl⟩⟩
      · have HR2 := eq_of_pre l l' k I.out (by omega)
        rw [HR.out] at HR2
        clear H H' HR I
        go_wp2
        go_ret
        exact ⟨ret_bool (by rw [HR2]; first | rfl | simp), hb⟩
    · have HR2 := eq_of_pre l l' k I.out (by omega)
      rw [HR.out] at HR2
      clear H H' HR I
      go_wp2
      go_ret
      exact ⟨ret_bool (by rw [HR2]; first | rfl | simp), hb⟩

end Go.Proofs.Ytlhmipjbpbbcbaa
