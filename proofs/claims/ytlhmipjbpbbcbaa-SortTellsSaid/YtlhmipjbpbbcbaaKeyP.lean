/- Package sort: Order, and whether keys rise (IsSortedFunc). -/
import Derived.Test.YtlhmipjbpbbcbaaKeyO
namespace Go.Proofs.Ytlhmipjbpbbcbaa
open Go.RowKit

/-- the places of keys, in order -/
def ordL (l : List (Int × Int)) : List Nat := srtF (fun i => l.getD i (0, 0)) l.length (List.range l.length)

theorem ordL_perm (l : List (Int × Int)) : (ordL l).Perm (List.range l.length) := srtF_perm _ _ _
theorem ordL_len (l : List (Int × Int)) : (ordL l).length = l.length := by unfold ordL; rw [srtF_len, List.length_range]

set_option maxRecDepth 100000 in
set_option maxHeartbeats 1000000 in
theorem kOrd (a : Option Addr) (l : List (Int × Int)) (c : Nat) (w : World) (h : RdK eKey 2 w a l) (hl : l.length ≤ 200000) :
    Calls Try.prog 29 #[.slice a l.length c] w fun e w' => ∃ a' c', e = .returned (.tuple #[.slice a' l.length c', .int .i64 (wrF l.length l.length), .int .i64 0]) ∧ l.length ≤ c' ∧
      w'.ownsRow w.heap.size 3 1 (.slice a' l.length c') l.length ((ordL l).map eNat) ∧ Below w.heap.size w w' := by
  have H := Lib.hid h
  clear h
  have HO := Lib.hid (ordL_len l)
  have eo : ordL l = srtF (fun i => l.getD i (0, 0)) l.length (List.range l.length) := rfl
  have B0 : Below w.heap.size w (w.alloc (.cells #[.slice a l.length c] 37)) := (Below.refl _ _).alloc (Nat.le_refl _) _
  have CP := Lib.hid (kPlaces 0 l.length (w.alloc (.cells #[.slice a l.length c] 37)) (by omega) (by omega))
  have HF : Hid (∀ (W : World) (i : Nat), Below (w.alloc (.cells #[.slice a l.length c] 37)).heap.size (w.alloc (.cells #[.slice a l.length c] 37)) W → i < l.length →
      Calls Try.prog 49 (#[.int .i64 i] ++ #[.pointer (some ⟨w.heap.size, 0, none⟩)]) W fun e w' => e = .returned (.agg #[.int .i64 ((fun i => l.getD i (0, 0)) i).1, .int .u32 ((fun i => l.getD i (0, 0)) i).2]) ∧ Below W.heap.size W w') := by
    intro W i hb hi
    refine clOrder i _ a l c W ?_ (H.out.below (B0.trans (hb.mono (by simp)))) hi
    rw [hb.cell (by simp)]
    simp
  rw [eo]
  have hwr := wrF_le l.length l.length
  have hwr2 : l.length * l.length ≤ 200000 * 200000 := Nat.mul_le_mul hl hl
  have HR : Hid (∀ (a1 : Option Addr) (c1 : Nat) (w1 : World), Below (w.alloc (.cells #[.slice a l.length c] 37)).heap.size (w.alloc (.cells #[.slice a l.length c] 37)) w1 → Rd eNat w1 a1 (List.range l.length) → l.length ≤ c1 →
      Calls Try.prog 48 #[.func (.func 49) #[] #[.pointer (some ⟨w.heap.size, 0, none⟩)], .slice a1 l.length c1] w1 fun e w' => ∃ a' c', e = .returned (.tuple #[.slice a' l.length c', .int .i64 (wrF l.length l.length)]) ∧ l.length ≤ c' ∧ Rd eNat w' a' (srtF (fun i => l.getD i (0, 0)) l.length (List.range l.length)) ∧
      (2 ≤ l.length → w'.ownsRow w1.heap.size 3 1 (.slice a' l.length c') l.length ((srtF (fun i => l.getD i (0, 0)) l.length (List.range l.length)).map eNat)) ∧ (l.length < 2 → a' = a1 ∧ c' = c1 ∧ Rd eNat w' a1 (List.range l.length)) ∧ Below w1.heap.size w1 w') :=
    fun a1 c1 w1 hb hr hc => kOrdered _ _ _ l.length _ entersOrder HF.out l.length (List.range l.length) l.length a1 c1 w1 List.length_range (Nat.le_refl _) hl hl hb hr hc (fun x hx => List.mem_range.1 hx)
  have hsmall : l.length < 2 → srtF (fun i => l.getD i (0, 0)) l.length (List.range l.length) = List.range l.length := by
    intro h2
    have : l.length = 0 ∨ l.length = 1 := by omega
    rcases this with e | e <;> rw [e] <;> simp [srtF]
  have HS := Lib.hid hsmall
  clear HF hsmall hwr2
  generalize srtF (fun i => l.getD i (0, 0)) l.length (List.range l.length) = S at *
  generalize wrF l.length l.length = wn at *
  clear eo
  generalize hn : l.length = n at *
  have HN := Lib.hid hn
  clear hn
  go_enter Try.func29, Try.ntmps29
  go_wp2_with fail
  refine CP.out.mono ?_
  rintro e w1 ⟨v1, rfl, hown1, hb1⟩
  obtain ⟨a1, c1, rfl, _, hc1, hr1⟩ := Rd.of_owns hown1
  rw [List.length_range'] at *
  have R1 := Lib.hid (hr1.cast List.range_eq_range'.symm)
  have O1 := Lib.hid (ownsRow_mono hown1 (show w.heap.size ≤ _ by simp))
  have bw1 := B0.trans (hb1.mono B0.size)
  clear hown1 hr1
  go_wp2_with fail
  refine (HR.out a1 c1 w1 hb1 R1.out hc1).mono ?_
  rintro e w2 ⟨a2, c2, rfl, hc2, _, ho2, hs2, hb2⟩
  have O2 : Hid (w2.ownsRow w.heap.size 3 1 (.slice a2 n c2) n (S.map eNat)) := by
    by_cases h2 : 2 ≤ n
    · exact ownsRow_mono (ho2 h2) bw1.size
    · obtain ⟨rfl, rfl, _⟩ := hs2 (by omega)
      rw [HS.out (by omega), List.range_eq_range']
      exact ownsRow_below O1.out hb2
  clear ho2 hs2
  go_wp2_with fail
  go_ret3
  exact ⟨a2, c2, rfl, hc2, O2.out, bw1.trans (hb2.mono bw1.size)⟩

/-- keys rise -/
def riseK (l : List (Int × Int)) : Bool := (List.range (l.length - 1)).all fun i => !decide (ordK (l.getD (i + 1) (0, 0)) (l.getD i (0, 0)) < 0)

theorem riseK_iff (l : List (Int × Int)) : riseK l = true ↔ ∀ i (h : i + 1 < l.length), 0 ≤ ordK l[i + 1] l[i] := by
  unfold riseK
  rw [List.all_eq_true]
  constructor
  · intro h i hi
    have := h i (List.mem_range.2 (by omega))
    simpa [hi, show i < l.length by omega] using this
  · intro h i hi
    have hi' := List.mem_range.1 hi
    have := h i (by omega)
    simpa [show i + 1 < l.length by omega, show i < l.length by omega] using this

theorem riseK_bool (l : List (Int × Int)) (b : Bool) (h : b = true ↔ ∀ i (h : i + 1 < l.length), 0 ≤ ordK l[i + 1] l[i]) : riseK l = b := by
  rw [Bool.eq_iff_iff, riseK_iff, h]

set_option maxRecDepth 100000 in
set_option maxHeartbeats 1000000 in
theorem kIsSorted (a : Option Addr) (l : List (Int × Int)) (c : Nat) (w : World) (h : RdK eKey 2 w a l) (hl : l.length ≤ 200000) :
    Calls Try.prog 53 #[.slice a l.length c, .func (.func 54) #[] #[]] w fun e w' => e = .returned (.bool (riseK l)) ∧ Below w.heap.size w w' := by
  have H := Lib.hid h
  clear h
  have HB := Lib.hid (riseK_bool l)
  generalize riseK l = r at *
  go_enter Try.func53, Try.ntmps53
  go_wp2
  go_loopw [5] (fun i wr => ∃ z : Int, i = .int .i64 z ∧ -1 ≤ z ∧ z < l.length ∧ Below w.heap.size w wr ∧ Hid (∀ i (h : i + 1 < l.length), z ≤ i → 0 ≤ ordK l[i + 1] l[i])) (fun i _ => (intOf i + 1).toNat)
  case atStart => exact ⟨(l.length : Int) - 1, rfl, by omega, by omega, Below.refl _ _, fun i h h2 => by omega⟩
  case round =>
    obtain ⟨z, rfl, hz1, hz2, hb, I⟩ := hrel
    by_cases hz : 0 < z
    · obtain ⟨k, rfl⟩ : ∃ k : Nat, z = (k : Int) + 1 := ⟨(z - 1).toNat, by omega⟩
      obtain ⟨b, off, rfl, hbl, hc⟩ := (H.out.below hb).get (by omega)
      have x0 := hc (k + 1) (by omega) 0 (by omega)
      have x1 := hc (k + 1) (by omega) 1 (by omega)
      have y0 := hc k (by omega) 0 (by omega)
      have y1 := hc k (by omega) 1 (by omega)
      simp only [eKey, List.getElem?_cons_zero, List.getElem?_cons_succ, Nat.add_zero] at x0 x1 y0 y1
      have e1 : ((k : Int) + 1).toNat = k + 1 := by omega
      have e2 : ((k : Int) + 1 - 1).toNat = k := by omega
      have g1 : (0 : Int) ≤ (k : Int) + 1 := by omega
      have g2 : (k : Int) + 1 < (l.length : Int) := by omega
      have g3 : (k : Int) < (l.length : Int) := by omega
      have X0 := cell_belowW x0
      have X1 := cell_belowW x1
      have Y0 := cell_belowW y0
      have Y1 := cell_belowW y1
      have hlt : k + 1 < l.length := by omega
      have C := Lib.hid (fun W => kOrder l[k + 1] l[k] W)
      by_cases ho : ordK l[k + 1] l[k] < 0
      · have hr : r = false := by
          exact HB.out false ⟨(fun h => by cases h), (fun h => absurd (h k hlt) (by omega))⟩
        have hd : decide (ordK l[k + 1] l[k] < 0) = true := by simp [ho]
        subst hr
        clear hc HB I H x0 x1 y0 y1
        generalize ordK l[k + 1] l[k] = q at *
        generalize l[k + 1] = x at *
        generalize l[k] = y at *
        go_wp2
        have V1 : IntKind.i64.wrap (k : Int) = (k : Int) := IntWalk.i64_in _ (by omega)
        refine wp_region_below (by kernel_rfl) (by kernel_rfl) ?_
        repeat (quiet_step ((go_at_call 54; exact calls_below (C.out _))))
        refine wpQuiet_nil ?_
        clear V1
        intro w5 hw'
        have hb5 : Below wr.heap.size wr w5 := by obtain ⟨p, rfl⟩ := hw'; exact p.h
        clear hw'
        go_wp2
        go_ret
        exact ⟨rfl, hb.trans (hb5.mono hb.size)⟩
      · have I2 : Hid (∀ i (h : i + 1 < l.length), (k : Int) ≤ i → 0 ≤ ordK l[i + 1] l[i]) := by
          intro i h hki
          by_cases e : i = k
          · subst e; omega
          · exact I.out i h (by omega)
        have hd : decide (ordK l[k + 1] l[k] < 0) = false := by simp; omega
        clear hc HB I H x0 x1 y0 y1
        generalize ordK l[k + 1] l[k] = q at *
        generalize l[k + 1] = x at *
        generalize l[k] = y at *
        go_wp2
        have V1 : IntKind.i64.wrap (k : Int) = (k : Int) := IntWalk.i64_in _ (by omega)
        refine wp_region_below (by kernel_rfl) (by kernel_rfl) ?_
        repeat (quiet_step ((go_at_call 54; exact calls_below (C.out _))))
        refine wpQuiet_nil ?_
        clear V1
        intro w5 hw'
        have hb5 : Below wr.heap.size wr w5 := by obtain ⟨p, rfl⟩ := hw'; exact p.h
        clear hw'
        go_wp2
        go_roundw
        case rel => exact ⟨k, by go_num, by omega, by omega, hb.trans (hb5.mono hb.size), I2⟩
        case measure => simp [intOf]; omega
    · have hr : r = true := HB.out true ⟨fun _ i h => I.out i h (by omega), fun _ => rfl⟩
      subst hr
      clear HB I H
      go_wp2
      go_ret
      exact ⟨rfl, hb⟩

end Go.Proofs.Ytlhmipjbpbbcbaa
