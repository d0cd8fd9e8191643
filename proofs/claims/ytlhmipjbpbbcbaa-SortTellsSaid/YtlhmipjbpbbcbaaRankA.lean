/- Package rank: begins, First, Above: what they answer, as bsrch. -/
import Derived.Test.YtlhmipjbpbbcbaaRankP
namespace Go.Proofs.Ytlhmipjbpbbcbaa
open Go.RowKit
set_option maxRecDepth 100000 in
set_option maxHeartbeats 400000 in
theorem begins_any (g : Nat) (cb : Array Value) (n : Nat) (p : Nat → Bool) (w : World) (hsz : n < 4611686018427387904) (eg : ∀ args w, (callFunc g args).run Try.prog w = .ok (.enter g args) w)
    (hf : ∀ (W : World) (i : Nat), Below w.heap.size w W → i < n → Calls Try.prog g (#[.int .i64 i] ++ cb) W fun e w' => e = .returned (.bool (p i)) ∧ Below W.heap.size W w') :
    Calls Try.prog 40 #[.int .i64 n, .func (.func g) #[] cb] w fun e w' => e = .returned (.tuple #[.int .i64 (bsrch p n 0 n 0).1, .int .i64 (bsrch p n 0 n 0).2]) ∧ Below w.heap.size w w' := by
  have HF := Lib.hid hf
  clear hf
  generalize hr : bsrch p n 0 n 0 = r
  have HR := Lib.hid hr
  clear hr
  obtain ⟨r1, r2⟩ := r
  go_enter Try.func40, Try.ntmps40
  go_wp2
  go_loopg [6, 7, 8] n (fun kx s6 s7 s8 wr => ∃ (lo hi k : Nat), s6 = .int .i64 lo ∧ s7 = .int .i64 hi ∧ s8 = .int .i64 k ∧ lo ≤ hi ∧ hi ≤ n ∧ k + (hi - lo) ≤ n ∧ hi - lo ≤ kx ∧ Below w.heap.size w wr ∧
    Hid (bsrch p n lo hi k = (r1, r2)))
  case atStart => exact ⟨0, n, 0, rfl, rfl, rfl, Nat.zero_le _, Nat.le_refl _, by omega, by omega, Below.refl _ _, HR⟩
  case round =>
    obtain ⟨lo, hi, k, rfl, rfl, rfl, hlh, hin, hk, hg, hb, I⟩ := hrel
    by_cases hlt : lo < hi
    · have hc := HF.out wr (lo + (hi - lo) / 2) hb (by omega)
      rw [show ((lo + (hi - lo) / 2 : Nat) : Int) = (lo : Int) + ((hi : Int) - (lo : Int)) / 2 by omega] at hc
      have I2 := I.out
      have I3 : bsrch p n lo hi k = bsrch p (n+1) lo hi k := bsrch_fuel p _ _ _ _ _ (by omega) (by omega)
      rw [I3, bsrch, if_pos hlt] at I2
      cases hp : p (lo + (hi - lo) / 2) <;> rw [hp] at hc I2
      · have HP := Lib.hid I2
        clear hp I2 I3
        go_wp2_with (go_at_fn g; refine hc.mono ?_; rintro e w' ⟨rfl, hb'⟩)
        go_roundg (hi - (lo + (hi - lo) / 2 + 1))
        case measure => omega
        case rel =>
          exact ⟨lo + (hi - lo) / 2 + 1, hi, k + 1, by go_num, rfl, by go_num, by omega, hin, by omega, Nat.le_refl _, hb.trans (hb'.mono hb.size), HP.out⟩
      · have HP := Lib.hid I2
        clear hp I2 I3
        go_wp2_with (go_at_fn g; refine hc.mono ?_; rintro e w' ⟨rfl, hb'⟩)
        go_roundg ((lo + (hi - lo) / 2) - lo)
        case measure => omega
        case rel =>
          exact ⟨lo, lo + (hi - lo) / 2, k + 1, rfl, by go_num, by go_num, by omega, by omega, by omega, Nat.le_refl _, hb.trans (hb'.mono hb.size), HP.out⟩
    · obtain rfl : hi = lo := by omega
      have I2 := I.out
      have I3 : bsrch p n hi hi k = (hi, k) := by cases n <;> simp [bsrch]
      rw [I3] at I2
      cases I2
      clear I3 I HR
      go_wp2
      go_ret2
      exact ⟨rfl, hb⟩

set_option maxHeartbeats 400000 in
theorem clFirst (i : Nat) (bl bx : Nat) (a : Option Addr) (l : List Int) (c : Nat) (x : Int) (W : World) (ha : W.cell? ⟨bl, 0, none⟩ = some (.slice a l.length c)) (hx : W.cell? ⟨bx, 0, none⟩ = some (.int .i64 x))
    (h : Rd (.int .i64) W a l) (hi : i < l.length) :
    Calls Try.prog 41 (#[.int .i64 i] ++ #[.pointer (some ⟨bl, 0, none⟩), .pointer (some ⟨bx, 0, none⟩)]) W fun e w' => e = .returned (.bool (decide (x ≤ l.getD i 0))) ∧ Below W.heap.size W w' := by
  obtain ⟨b, off, rfl, hbl, hc⟩ := h.get (by omega)
  have hc1 := hc i hi
  have hg : l.getD i 0 = l[i] := by simp [hi]
  rw [hg]
  clear hg hc
  generalize l[i] = y at *
  have hlt : (i : Int) < (l.length : Int) := by omega
  go_enter Try.func41, Try.ntmps41
  go_wp2
  go_quiet (fail)
  go_wp2
  go_ret
  exact ⟨ret_bool (by first | rfl | simp), ⟨rfl, rfl, rfl, Nat.le_refl _, fun _ _ => rfl⟩⟩

theorem entersFirst : ∀ args w, (callFunc 41 args).run Try.prog w = .ok (.enter 41 args) w := enters_of Try.func41 (by kernel_rfl) rfl

set_option maxHeartbeats 400000 in
theorem rFirst (a : Option Addr) (l : List Int) (c : Nat) (x : Int) (w : World) (h : Rd (.int .i64) w a l) (hl : l.length < 4611686018427387904) :
    Calls Try.prog 17 #[.slice a l.length c, .int .i64 x] w fun e w' => e = .returned (.tuple #[.int .i64 (rkFirst l x).1, .int .i64 (rkFirst l x).2]) ∧ Below w.heap.size w w' := by
  have H := Lib.hid h; clear h
  unfold rkFirst
  have eg := entersFirst
  have HC : Hid (∀ (W : World) (i : Nat), Below ((w.alloc (.cells #[.slice a l.length c] 22)).alloc (.cells #[.int .i64 x] 2)).heap.size ((w.alloc (.cells #[.slice a l.length c] 22)).alloc (.cells #[.int .i64 x] 2)) W → i < l.length →
      Calls Try.prog 41 (#[.int .i64 i] ++ #[.pointer (some ⟨w.heap.size, 0, none⟩), .pointer (some ⟨w.heap.size + 1, 0, none⟩)]) W fun e w' => e = .returned (.bool ((fun i => decide (x ≤ l.getD i 0)) i)) ∧ Below W.heap.size W w') := by
    intro W i hb hi
    have hb1 : Below w.heap.size w W := (((Below.refl _ _).alloc (Nat.le_refl _) _).alloc (by simp) _).trans (hb.mono (by simp; omega))
    refine clFirst i _ _ a l c x W ?_ ?_ (H.out.below hb1) hi
    · rw [hb.cell (by simp; omega)]; simp
    · rw [hb.cell (by simp)]; simp
  generalize (fun i => decide (x ≤ l.getD i 0)) = p at *
  go_enter Try.func17, Try.ntmps17
  go_wp2_with (go_at_call 40; refine (begins_any _ _ _ p _ hl eg HC.out).mono ?_; rintro e w' ⟨rfl, hb⟩)
  go_ret2
  exact ⟨rfl, (((Below.refl _ _).alloc (Nat.le_refl _) _).alloc (by simp) _).trans (hb.mono (by simp; omega))⟩

set_option maxHeartbeats 400000 in
theorem clAbove (i : Nat) (bl bx : Nat) (a : Option Addr) (l : List Int) (c : Nat) (x : Int) (W : World) (ha : W.cell? ⟨bl, 0, none⟩ = some (.slice a l.length c)) (hx : W.cell? ⟨bx, 0, none⟩ = some (.int .i64 x))
    (h : Rd (.int .i64) W a l) (hi : i < l.length) :
    Calls Try.prog 43 (#[.int .i64 i] ++ #[.pointer (some ⟨bl, 0, none⟩), .pointer (some ⟨bx, 0, none⟩)]) W fun e w' => e = .returned (.bool (decide (x < l.getD i 0))) ∧ Below W.heap.size W w' := by
  obtain ⟨b, off, rfl, hbl, hc⟩ := h.get (by omega)
  have hc1 := hc i hi
  have hg : l.getD i 0 = l[i] := by simp [hi]
  rw [hg]
  clear hg hc
  generalize l[i] = y at *
  have hlt : (i : Int) < (l.length : Int) := by omega
  go_enter Try.func43, Try.ntmps43
  go_wp2
  go_quiet (fail)
  go_wp2
  go_ret
  exact ⟨ret_bool (by first | rfl | simp), ⟨rfl, rfl, rfl, Nat.le_refl _, fun _ _ => rfl⟩⟩

theorem entersAbove : ∀ args w, (callFunc 43 args).run Try.prog w = .ok (.enter 43 args) w := enters_of Try.func43 (by kernel_rfl) rfl

set_option maxHeartbeats 400000 in
theorem rAbove (a : Option Addr) (l : List Int) (c : Nat) (x : Int) (w : World) (h : Rd (.int .i64) w a l) (hl : l.length < 4611686018427387904) :
    Calls Try.prog 19 #[.slice a l.length c, .int .i64 x] w fun e w' => e = .returned (.tuple #[.int .i64 (rkAbove l x).1, .int .i64 (rkAbove l x).2]) ∧ Below w.heap.size w w' := by
  have H := Lib.hid h; clear h
  unfold rkAbove
  have eg := entersAbove
  have HC : Hid (∀ (W : World) (i : Nat), Below ((w.alloc (.cells #[.slice a l.length c] 22)).alloc (.cells #[.int .i64 x] 2)).heap.size ((w.alloc (.cells #[.slice a l.length c] 22)).alloc (.cells #[.int .i64 x] 2)) W → i < l.length →
      Calls Try.prog 43 (#[.int .i64 i] ++ #[.pointer (some ⟨w.heap.size, 0, none⟩), .pointer (some ⟨w.heap.size + 1, 0, none⟩)]) W fun e w' => e = .returned (.bool ((fun i => decide (x < l.getD i 0)) i)) ∧ Below W.heap.size W w') := by
    intro W i hb hi
    have hb1 : Below w.heap.size w W := (((Below.refl _ _).alloc (Nat.le_refl _) _).alloc (by simp) _).trans (hb.mono (by simp; omega))
    refine clAbove i _ _ a l c x W ?_ ?_ (H.out.below hb1) hi
    · rw [hb.cell (by simp; omega)]; simp
    · rw [hb.cell (by simp)]; simp
  generalize (fun i => decide (x < l.getD i 0)) = p at *
  go_enter Try.func19, Try.ntmps19
  go_wp2_with (go_at_call 40; refine (begins_any _ _ _ p _ hl eg HC.out).mono ?_; rintro e w' ⟨rfl, hb⟩)
  go_ret2
  exact ⟨rfl, (((Below.refl _ _).alloc (Nat.le_refl _) _).alloc (by simp) _).trans (hb.mono (by simp; omega))⟩

end Go.Proofs.Ytlhmipjbpbbcbaa
