/- gridironref04: First, Above, Log, Squeeze: what they answer. -/
import Derived.Test.YtlhmipjbpbbcbaaRankRef
import Derived.Lib.ItoaNum
namespace Go.Proofs.Ytlhmipjbpbbcbaa
open Go.RowKit

theorem refFirst (a : Option Addr) (l : List Int) (c : Nat) (x : Int) (w : World) (h : Rd (.int .i64) w a l) (hl : l.length ≤ 1000000) :
    Calls Try.prog 18 #[.slice a l.length c, .int .i64 x] w fun e w' => e = .returned (.tuple #[.int .i64 (rkFirst l x).1, .int .i64 (rkFirst l x).2]) ∧ Below w.heap.size w w' := by
  have hc := rLook a l c x false w h hl
  rw [show lkP l x false = fun i => decide (x ≤ l.getD i 0) from funext fun i => by simp [lkP]] at hc
  rw [show bsrch (fun i => decide (x ≤ l.getD i 0)) l.length 0 l.length 0 = rkFirst l x from rfl] at hc
  replace hc := Lib.hid hc
  clear h
  go_enter Try.func18, Try.ntmps18
  go_wp2_with (go_at_call 42; refine hc.out.mono ?_; rintro e w' ⟨rfl, hb⟩)
  go_ret2
  exact ⟨rfl, hb⟩

theorem refAbove (a : Option Addr) (l : List Int) (c : Nat) (x : Int) (w : World) (h : Rd (.int .i64) w a l) (hl : l.length ≤ 1000000) :
    Calls Try.prog 20 #[.slice a l.length c, .int .i64 x] w fun e w' => e = .returned (.tuple #[.int .i64 (rkAbove l x).1, .int .i64 (rkAbove l x).2]) ∧ Below w.heap.size w w' := by
  have hc := rLook a l c x true w h hl
  rw [show lkP l x true = fun i => decide (x < l.getD i 0) from funext fun i => by simp [lkP]] at hc
  rw [show bsrch (fun i => decide (x < l.getD i 0)) l.length 0 l.length 0 = rkAbove l x from rfl] at hc
  replace hc := Lib.hid hc
  clear h
  go_enter Try.func20, Try.ntmps20
  go_wp2_with (go_at_call 42; refine hc.out.mono ?_; rintro e w' ⟨rfl, hb⟩)
  go_ret2
  exact ⟨rfl, hb⟩

theorem pow_mono_lt {a b : Nat} (h : 2 ^ a < 2 ^ b) : a < b := (Nat.pow_lt_pow_iff_right (by decide)).1 h

/-- 1 doubled so often is n at least, doubled once less it is not: that is rkLog -/
theorem rkLog_of (n : Int) (k : Nat) (h2 : 2 ≤ n) (h1 : n ≤ 9223372036854775807) (hk : n ≤ (2 ^ k : Nat)) (hp : k = 0 ∨ ((2 ^ (k - 1) : Nat) : Int) < n) : rkLog n = k := by
  obtain ⟨m, rfl⟩ : ∃ m : Nat, n = m := ⟨n.toNat, by omega⟩
  unfold rkLog
  rw [if_neg (by omega)]
  have hb := Lib.bitLenAux_bounds 64 ((m : Int) - 1).toNat (by omega) (by omega)
  show Lib.bitLenAux 64 _ = k
  generalize hx : ((m : Int) - 1).toNat = x at *
  generalize Lib.bitLenAux 64 x = q at *
  obtain ⟨h3, h4, h5⟩ := hb
  have hkm : x < 2 ^ k := by omega
  have h6 : q - 1 < k := pow_mono_lt (Nat.lt_of_le_of_lt h4 hkm)
  rcases hp with rfl | hp
  · omega
  · have h7 : 2 ^ (k - 1) ≤ x := by omega
    have h8 : k - 1 < q := pow_mono_lt (Nat.lt_of_le_of_lt h7 h5)
    omega

set_option maxRecDepth 100000 in
set_option maxHeartbeats 400000 in
theorem refLog (n : Int) (w : World) (h1 : n ≤ 9223372036854775807) :
    Calls Try.prog 25 #[.int .i64 n] w fun e w' => e = .returned (.int .i64 (rkLog n)) ∧ Below w.heap.size w w' := by
  by_cases hn : n < 2
  · rw [show rkLog n = 0 by simp [rkLog, hn]]
    have hd : decide (1 < n) = false := by simp; omega
    go_enter Try.func25, Try.ntmps25
    go_wp2
    go_loopw [3, 4] (fun k p wr => k = .int .i64 0 ∧ wr = w) (fun _ _ _ => 0)
    case atStart => exact ⟨rfl, rfl⟩
    case round =>
      obtain ⟨rfl, rfl⟩ := hrel
      go_wp2
      go_ret
      exact ⟨rfl, Below.refl _ _⟩
  · have hd : (1 : Int) < n := by omega
    have h0 : 0 ≤ n := by omega
    have HL := Lib.hid (fun k => rkLog_of n k (by omega) h1)
    generalize rkLog n = r at *
    go_enter Try.func25, Try.ntmps25
    go_wp2
    go_loopw [3, 4] (fun k p wr => ∃ (j q : Nat), k = .int .i64 j ∧ p = .int .u64 q ∧ j ≤ 64 ∧ 1 ≤ q ∧ (q : Int) ≤ 2 * n ∧ Hid (q = 2 ^ j) ∧ Hid (j = 0 ∨ ((2 ^ (j - 1) : Nat) : Int) < n) ∧ wr = w) (fun _ p _ => (2 * n - intOf p).toNat)
    case atStart => exact ⟨0, 1, rfl, rfl, by omega, by omega, by omega, rfl, .inl rfl, rfl⟩
    case round =>
      obtain ⟨j, q, rfl, rfl, hj, hq1, hq2, E, J, rfl⟩ := hrel
      by_cases hlt : (q : Int) < n
      · have hj2 : j < 63 := by
          have := E.out
          have h9 : 2 ^ j < 2 ^ 63 := by omega
          exact pow_mono_lt h9
        have E2 : Hid (q * 2 = 2 ^ (j + 1)) := by have := E.out; show q * 2 = 2 ^ (j + 1); rw [Nat.pow_succ]; omega
        have J2 : Hid (j + 1 = 0 ∨ ((2 ^ (j + 1 - 1) : Nat) : Int) < n) := .inr (by rw [Nat.add_sub_cancel, ← E.out]; exact hlt)
        clear E J HL
        go_wp2
        go_roundw
        case rel => exact ⟨j + 1, q * 2, by go_num, by go_num, by omega, by omega, by omega, E2, J2, by first | rfl | trivial⟩
        case measure => simp [intOf]; omega
      · have hr := HL.out j (by rw [← E.out]; omega) J.out
        subst hr
        clear HL E J
        go_wp2
        go_ret
        exact ⟨rfl, Below.refl _ _⟩


/-- does a number stand behind the first k of s? -/
def abv (s : List Int) (k : Nat) (x : Int) : Prop := k = 0 ∨ s.getD (k - 1) 0 < x

theorem sq_none (l s : List Int) (k : Nat) (hs1 : s.Pairwise (· < ·)) (hs2 : ∀ x, x ∈ s ↔ x ∈ l) (hk : k ≤ s.length) (h : ∀ j (hj : j < l.length), ¬ abv s k l[j]) : k = s.length := by
  apply Classical.byContradiction
  intro hne
  have hlt : k < s.length := by omega
  have hm : s[k] ∈ l := (hs2 _).1 (List.getElem_mem _)
  obtain ⟨j, hj, e⟩ := List.getElem_of_mem hm
  refine h j hj ?_
  rw [e]
  by_cases h0 : k = 0
  · exact .inl h0
  · refine .inr ?_
    have : s.getD (k - 1) 0 = s[k - 1] := by simp [show k - 1 < s.length by omega]
    rw [this]
    exact List.pairwise_iff_getElem.1 hs1 (k - 1) k (by omega) hlt (by omega)

theorem sq_some (l s : List Int) (k m : Nat) (hs1 : s.Pairwise (· < ·)) (hs2 : ∀ x, x ∈ s ↔ x ∈ l) (hk : k ≤ s.length) (hm : m < l.length) (ha : abv s k l[m]) (h : ∀ j (hj : j < l.length), abv s k l[j] → l[m] ≤ l[j]) :
    ∃ hk : k < s.length, s[k] = l[m] := by
  have hmem : l[m] ∈ s := (hs2 _).2 (List.getElem_mem _)
  obtain ⟨t, ht, e⟩ := List.getElem_of_mem hmem
  have hkt : k ≤ t := by
    apply Classical.byContradiction
    intro hlt
    rcases ha with h0 | ha
    · omega
    · have e1 : s.getD (k - 1) 0 = s[k - 1] := by simp [show k - 1 < s.length by omega]
      rw [e1, ← e] at ha
      by_cases h2 : t = k - 1
      · subst h2; exact absurd ha (Int.lt_irrefl _)
      · have := List.pairwise_iff_getElem.1 hs1 t (k - 1) ht (by omega) (by omega)
        omega
  refine ⟨by omega, ?_⟩
  have hkl : k < s.length := by omega
  by_cases h2 : t = k
  · subst h2; exact e
  · have h3 := List.pairwise_iff_getElem.1 hs1 k t hkl ht (by omega)
    have hm2 : s[k] ∈ l := (hs2 _).1 (List.getElem_mem _)
    obtain ⟨j, hj, e2⟩ := List.getElem_of_mem hm2
    have h4 : abv s k l[j] := by
      rw [e2]
      by_cases h0 : k = 0
      · exact .inl h0
      · refine .inr ?_
        have : s.getD (k - 1) 0 = s[k - 1] := by simp [show k - 1 < s.length by omega]
        rw [this]
        exact List.pairwise_iff_getElem.1 hs1 (k - 1) k (by omega) hkl (by omega)
    have := h j hj h4
    omega

/-- where the inner loop stands: the least one of the first i that stands behind -/
def InAt (l s : List Int) (k i : Nat) (z : Int) : Prop :=
  (z = -1 ∧ ∀ j (hj : j < l.length), j < i → ¬ abv s k l[j]) ∨ ∃ (m : Nat) (hm : m < l.length), z = m ∧ m < i ∧ abv s k l[m] ∧ ∀ j (hj : j < l.length), j < i → abv s k l[j] → l[m] ≤ l[j]

theorem InAt.keep {l s : List Int} {k i : Nat} {z : Int} (hi : i < l.length) (h : InAt l s k i z) (hx : ¬ abv s k l[i] ∨ (∃ (m : Nat) (hm : m < l.length), z = m ∧ l[m] ≤ l[i])) : InAt l s k (i + 1) z := by
  rcases h with ⟨rfl, h⟩ | ⟨m, hm, rfl, hmi, ha, h⟩
  · refine .inl ⟨rfl, fun j hj hji => ?_⟩
    by_cases e : j = i
    · subst e
      rcases hx with hx | ⟨m, _, h2, _⟩
      · exact hx
      · omega
    · exact h j hj (by omega)
  · refine .inr ⟨m, hm, rfl, by omega, ha, fun j hj hji haj => ?_⟩
    by_cases e : j = i
    · subst e
      rcases hx with hx | ⟨m2, hm2, h2, h3⟩
      · exact absurd haj hx
      · obtain rfl : m = m2 := by omega
        exact h3
    · exact h j hj (by omega) haj

theorem InAt.turn {l s : List Int} {k i : Nat} {z : Int} (hi : i < l.length) (h : InAt l s k i z) (hx : abv s k l[i]) (hz : z = -1 ∨ (∃ (m : Nat) (hm : m < l.length), z = m ∧ l[i] < l[m])) : InAt l s k (i + 1) i := by
  refine .inr ⟨i, hi, rfl, by omega, hx, fun j hj hji haj => ?_⟩
  by_cases e : j = i
  · subst e; omega
  · rcases h with ⟨rfl, h⟩ | ⟨m, hm, rfl, hmi, ha, h⟩
    · exact absurd haj (h j hj (by omega))
    · have := h j hj (by omega) haj
      rcases hz with hz | ⟨m2, hm2, h2, h3⟩
      · omega
      · obtain rfl : m = m2 := by omega
        omega

set_option maxRecDepth 100000 in
set_option maxHeartbeats 1000000 in
theorem refSqueeze (a : Option Addr) (l s : List Int) (c : Nat) (w : World) (h : Rd (.int .i64) w a l) (hl : l.length ≤ 1000000) (hs1 : s.Pairwise (· < ·)) (hs2 : ∀ x, x ∈ s ↔ x ∈ l) (hsl : s.length ≤ l.length) :
    Calls Try.prog 23 #[.slice a l.length c] w fun e w' => ∃ v, e = .returned v ∧ w'.ownsRow w.heap.size 2 1 v s.length (s.map (.int .i64)) ∧ Below w.heap.size w w' := by
  have H := Lib.hid h; have S1 := Lib.hid hs1; have S2 := Lib.hid hs2; clear h hs1 hs2
  go_enter Try.func23, Try.ntmps23
  go_wp2
  go_loopw [3] (fun v wr => ∃ k : Nat, k ≤ s.length ∧ wr.ownsRow w.heap.size 2 1 v (s.take k).length ((s.take k).map (.int .i64)) ∧ Below w.heap.size w wr) (fun v _ => match v with | .slice _ n _ => s.length - n | _ => 0)
  case atStart => exact ⟨0, Nat.zero_le _, World.ownsRow_nil _ _ _ _, Below.refl _ _⟩
  case round =>
    obtain ⟨k, hk, hown, hb⟩ := hrel
    obtain ⟨av, cv, rfl, _, hcv, hrd⟩ := Rd.of_owns hown
    have HO := Lib.hid hown
    have HRD := Lib.hid hrd
    clear hown hrd
    have ek : (s.take k).length = k := by simp; omega
    rw [ek] at hcv ⊢
    rw [ek] at HO
    clear ek
    go_wp2
    go_loopw [4, 5] (fun z i w2 => ∃ (iv : Nat) (zv : Int), z = .int .i64 zv ∧ i = .int .i64 iv ∧ iv ≤ l.length ∧ -1 ≤ zv ∧ zv < l.length ∧ Hid (InAt l s k iv zv) ∧ Hid (w2.ownsRow w.heap.size 2 1 (.slice av k cv) k ((s.take k).map (.int .i64))) ∧ Below wr.heap.size wr w2) (fun _ i _ => l.length - (intOf i).toNat)
    case atStart => exact ⟨0, -1, rfl, rfl, Nat.zero_le _, by omega, by omega, .inl ⟨rfl, fun _ _ h => absurd h (Nat.not_lt_zero _)⟩, HO, Below.refl _ _⟩
    case round =>
      obtain ⟨i, z, rfl, rfl, hi, hz0, hz1, I, HO2, hb2⟩ := hrel
      by_cases hlt : i < l.length
      · obtain ⟨b, off, ea, hbl, hc⟩ := (H.out.below (hb.trans (hb2.mono hb.size))).get (by omega)
        have EA := Lib.hid ea
        have hx := hc i hlt
        have hil : (i : Int) < (l.length : Int) := by omega
        by_cases h0 : k = 0
        · subst h0
          have hax : abv s 0 l[i] := .inl rfl
          rcases I.out with ⟨rfl, h3⟩ | ⟨m, hm, rfl, hmi, ham, h3⟩
          · have I2 := Lib.hid (InAt.turn hlt I.out hax (.inl rfl))
            clear I h3 hc H S1 S2
            generalize l[i] = x at *
            obtain rfl := EA.out
            go_wp2
            go_quiet (fail)
            go_wp2
            go_roundw
            case rel => exact ⟨i + 1, i, rfl, by go_num, by omega, by omega, by omega, I2, (HO2.out.drewAny _), hb2.trans (Below.drewAny _ _)⟩
            case measure => simp [intOf]; omega
          · have hy := hc m hm
            have hml : (m : Int) < (l.length : Int) := by omega
            have hm0 : decide ((m : Int) < 0) = false := by simp
            have hm1 : (0 : Int) ≤ (m : Int) := by omega
            by_cases hxy : l[i] < l[m]
            · have I2 := Lib.hid (InAt.turn hlt I.out hax (.inr ⟨m, hm, rfl, hxy⟩))
              clear I h3 hc H S1 S2 ham hax
              generalize l[i] = x at *
              generalize l[m] = y at *
              obtain rfl := EA.out
              have hd : decide (x < y) = true := by simp [hxy]
              go_wp2
              go_quiet (fail)
              go_wp2
              go_roundw
              case rel => exact ⟨i + 1, i, rfl, by go_num, by omega, by omega, by omega, I2, (HO2.out.drewAny _), hb2.trans (Below.drewAny _ _)⟩
              case measure => simp [intOf]; omega
            · have I2 := Lib.hid (InAt.keep hlt I.out (.inr ⟨m, hm, rfl, by omega⟩))
              clear I h3 hc H S1 S2 ham hax
              generalize l[i] = x at *
              generalize l[m] = y at *
              obtain rfl := EA.out
              have hd : decide (x < y) = false := by simp; omega
              go_wp2
              go_quiet (fail)
              go_wp2
              go_roundw
              case rel => exact ⟨i + 1, m, rfl, by go_num, by omega, by omega, by omega, I2, (HO2.out.drewAny _), hb2.trans (Below.drewAny _ _)⟩
              case measure => simp [intOf]; omega
        · obtain ⟨b2, off2, rfl, hbl2, hc2⟩ := (HRD.out.below hb2).get (by simp; omega)
          have hl2 := hc2 (k - 1) (by simp; omega)
          have e1 : (s.take k)[k - 1]'(by simp; omega) = s.getD (k - 1) 0 := by simp [show k - 1 < s.length by omega]
          rw [e1] at hl2
          have e2 : ((k : Int) - 1).toNat = k - 1 := by omega
          have hk0 : ((k : Int) == 0) = false := by simp; omega
          have hki : (0 : Int) ≤ (k : Int) - 1 := by omega
          clear e1 hc2
          by_cases hax : abv s k l[i]
          · have hlx : s.getD (k - 1) 0 < l[i] := hax.resolve_left h0
            rcases I.out with ⟨rfl, h3⟩ | ⟨m, hm, rfl, hmi, ham, h3⟩
            · have I2 := Lib.hid (InAt.turn hlt I.out hax (.inl rfl))
              clear I h3 hc H S1 S2
              generalize l[i] = x at *
              generalize s.getD (k - 1) 0 = q at *
              have hd0 : decide (q < x) = true := by simp [hlx]
              obtain rfl := EA.out
              go_wp2
              go_quiet (fail)
              go_wp2
              go_roundw
              case rel => exact ⟨i + 1, i, rfl, by go_num, by omega, by omega, by omega, I2, (HO2.out.drewAny _), hb2.trans (Below.drewAny _ _)⟩
              case measure => simp [intOf]; omega
            · have hy := hc m hm
              have hml : (m : Int) < (l.length : Int) := by omega
              have hm0 : decide ((m : Int) < 0) = false := by simp
              have hm1 : (0 : Int) ≤ (m : Int) := by omega
              by_cases hxy : l[i] < l[m]
              · have I2 := Lib.hid (InAt.turn hlt I.out hax (.inr ⟨m, hm, rfl, hxy⟩))
                clear I h3 hc H S1 S2 ham hax
                generalize l[i] = x at *
                generalize l[m] = y at *
                generalize s.getD (k - 1) 0 = q at *
                have hd0 : decide (q < x) = true := by simp [hlx]
                obtain rfl := EA.out
                have hd : decide (x < y) = true := by simp [hxy]
                go_wp2
                go_quiet (fail)
                go_wp2
                go_roundw
                case rel => exact ⟨i + 1, i, rfl, by go_num, by omega, by omega, by omega, I2, (HO2.out.drewAny _), hb2.trans (Below.drewAny _ _)⟩
                case measure => simp [intOf]; omega
              · have I2 := Lib.hid (InAt.keep hlt I.out (.inr ⟨m, hm, rfl, by omega⟩))
                clear I h3 hc H S1 S2 ham hax
                generalize l[i] = x at *
                generalize l[m] = y at *
                generalize s.getD (k - 1) 0 = q at *
                have hd0 : decide (q < x) = true := by simp [hlx]
                obtain rfl := EA.out
                have hd : decide (x < y) = false := by simp; omega
                go_wp2
                go_quiet (fail)
                go_wp2
                go_roundw
                case rel => exact ⟨i + 1, m, rfl, by go_num, by omega, by omega, by omega, I2, (HO2.out.drewAny _), hb2.trans (Below.drewAny _ _)⟩
                case measure => simp [intOf]; omega
          · have hlx : ¬ s.getD (k - 1) 0 < l[i] := fun hh => hax (.inr hh)
            have I2 := Lib.hid (InAt.keep hlt I.out (.inl hax))
            clear I hc H S1 S2 hax
            generalize l[i] = x at *
            generalize s.getD (k - 1) 0 = q at *
            have hd0 : decide (q < x) = false := by simp; omega
            obtain rfl := EA.out
            go_wp2
            go_quiet (fail)
            go_wp2
            go_roundw
            case rel => exact ⟨i + 1, z, rfl, by go_num, by omega, by omega, by omega, I2, (HO2.out.drewAny _), hb2.trans (Below.drewAny _ _)⟩
            case measure => simp [intOf]; omega
      · obtain rfl : i = l.length := by omega
        rcases I.out with ⟨rfl, h3⟩ | ⟨m, hm, rfl, hmi, ham, h3⟩
        · have e := sq_none l s k S1.out S2.out hk (fun j hj => h3 j hj hj)
          subst e
          have ho := HO2.out
          rw [List.take_length] at ho
          clear I h3 H S1 S2 HO2 HO HRD
          go_wp2
          go_ret
          exact ⟨_, rfl, ho, hb.trans (hb2.mono hb.size)⟩
        · obtain ⟨hks, e⟩ := sq_some l s k m S1.out S2.out hk hm ham (fun j hj => h3 j hj hj)
          obtain ⟨b, off, ea, hbl, hc⟩ := (H.out.below (hb.trans (hb2.mono hb.size))).get (by omega)
          have hy := hc m hm
          rw [← e] at hy
          have et : s.take (k + 1) = s.take k ++ [s[k]] := List.take_succ_eq_append_getElem hks
          have hml : (m : Int) < (l.length : Int) := by omega
          have ho := HO2.out
          have hsz := hb.size
          have hsz2 := hb2.size
          clear I h3 S1 S2 HO2 HO HRD e ham hc H
          have ET := Lib.hid et
          clear et
          generalize s[k] = y at *
          subst ea
          go_wp2_with (at_builtin; refine wp_append1 elInt64 w.heap.size ho [.int .i64 y] rfl (by simp [Value.oneCell']) rfl _ _ rfl rfl _ rfl (by unfold maxLen; omega) (by omega) (by omega) ?_; intro v' w' hown' hg)
          have hfin : ∃ av' cv', v' = .slice av' (k + 1) cv' := by
            rcases hown'.2 with ⟨_, h9⟩ | ⟨g, cap, _, rfl, _⟩
            · omega
            · exact ⟨_, _, rfl⟩
          obtain ⟨av', cv', rfl⟩ := hfin
          go_roundw
          case rel => exact ⟨k + 1, by omega, by rw [ET.out, List.map_append]; simpa [show min k s.length = k by omega] using hown', below_grown (hb.trans (hb2.mono hsz)) ho hg (by omega) (Nat.le_refl _)⟩
          case measure => simp; omega

end Go.Proofs.Ytlhmipjbpbbcbaa
