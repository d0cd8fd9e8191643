/- gridironref04 and the copies of gridironlow: what they answer. -/
import Derived.Test.YtlhmipjbpbbcbaaRankB
namespace Go.Proofs.Ytlhmipjbpbbcbaa
open Go.RowKit

set_option maxHeartbeats 400000 in
theorem copyLongs (a : Option Addr) (l : List Int) (c : Nat) (w : World) (h : Rd (.int .i64) w a l) (hl : l.length ≤ 1000000) :
    Calls Try.prog 16 #[.slice a l.length c] w fun e w' => ∃ v, e = .returned v ∧ w'.ownsRow w.heap.size 2 1 v l.length (l.map (.int .i64)) ∧ Below w.heap.size w w' := by
  have hown := World.ownsRow_made (e := 2) (size := 1) w #[] 0 (Nat.le_refl _) (Nat.zero_le _) rfl
  have h' : Rd (.int .i64) (w.alloc (.cells #[] 2)) a l := h.below ((Below.refl _ _).alloc (Nat.le_refl _) _)
  clear h
  go_enter Try.func16, Try.ntmps16
  go_wp2_with (at_builtin; refine wp_appendL elInt64 (fun _ => rfl) w.heap.size hown h' rfl _ _ rfl rfl c rfl (by unfold maxLen; omega) (by omega) (by simp) ?_; intro v' w' hown' hg)
  go_ret
  rw [Nat.zero_add, List.nil_append] at hown'
  exact ⟨_, rfl, hown', below_grown ((Below.refl _ _).alloc (Nat.le_refl _) _) hown hg (by simp) (Nat.le_refl _)⟩

/-- the middle one of a list -/
theorem rHalf (a : Option Addr) (l : List Nat) (n c : Nat) (w : World) (hn : l.length = n) (h : Rd (fun j : Nat => .int .i64 j) w a l) (hl : 0 < l.length) (hl2 : l.length ≤ 1000000) :
    Calls Try.prog 61 #[.slice a n c] w fun e w' => e = .returned (.int .i64 (l.getD (n / 2) 0 : Nat)) ∧ Below w.heap.size w w' := by
  subst hn
  obtain ⟨b, off, rfl, hbl, hc⟩ := h.get hl
  have hc1 := hc (l.length / 2) (by omega)
  have hg : l.getD (l.length / 2) 0 = l[l.length / 2] := by simp [show l.length / 2 < l.length by omega]
  rw [hg]
  generalize l[l.length / 2] = y at *
  clear hg hc
  have hlt : ((l.length / 2 : Nat) : Int) < (l.length : Int) := by omega
  generalize l.length = n at *
  have e1 : ((n : Int) / 2).toNat = n / 2 := by omega
  go_enter Try.func61, Try.ntmps61
  go_wp2
  go_ret
  exact ⟨rfl, Below.refl _ _⟩


theorem range'_take (lo n k : Nat) (h : k ≤ n) : (List.range' lo n).take k = List.range' lo k := by
  apply List.ext_getElem
  · simp; omega
  · intro i h1 h2
    simp

theorem range'_tail (lo n k : Nat) : (List.range' lo n).drop (k + 1) = List.range' (lo + k + 1) (n - (k + 1)) := by
  rw [List.drop_range']
  congr 1 <;> omega

/-- what is looked for -/
def lkP (l : List Int) (x : Int) (ab : Bool) (i : Nat) : Bool := if ab then decide (x < l.getD i 0) else decide (x ≤ l.getD i 0)

set_option maxRecDepth 100000 in
set_option maxHeartbeats 1000000 in
theorem rLook (a : Option Addr) (l : List Int) (c : Nat) (x : Int) (ab : Bool) (w : World) (h : Rd (.int .i64) w a l) (hl : l.length ≤ 1000000) :
    Calls Try.prog 42 #[.slice a l.length c, .int .i64 x, .bool ab] w fun e w' => e = .returned (.tuple #[.int .i64 (bsrch (lkP l x ab) l.length 0 l.length 0).1, .int .i64 (bsrch (lkP l x ab) l.length 0 l.length 0).2]) ∧ Below w.heap.size w w' := by
  have H := Lib.hid h; clear h
  generalize hr : bsrch (lkP l x ab) l.length 0 l.length 0 = r
  have HR := Lib.hid hr
  clear hr
  obtain ⟨r1, r2⟩ := r
  go_enter Try.func42, Try.ntmps42
  go_wp2
  go_loopw [8, 9] (fun v i wr => ∃ k : Nat, i = .int .i64 k ∧ k ≤ l.length ∧ wr.ownsRow w.heap.size 3 1 v k ((List.range k).map (fun j : Nat => .int .i64 j)) ∧ Below w.heap.size w wr) (fun _ i _ => l.length - (intOf i).toNat)
  case atStart => exact ⟨0, rfl, Nat.zero_le _, World.ownsRow_nil _ _ _ _, Below.refl _ _⟩
  case round =>
    obtain ⟨k, rfl, hk, hown, hb⟩ := hrel
    by_cases hlt : k < l.length
    · have hsz := hb.size
      go_wp2_with (at_builtin; refine wp_append1 elInt w.heap.size hown [.int .i64 k] rfl (by simp [Value.oneCell']) rfl _ _ rfl rfl _ rfl (by unfold maxLen; omega) (by omega) (by omega) ?_; intro v' w' hown' hg)
      go_roundw
      case rel => exact ⟨k + 1, by go_num, by omega, by rw [List.range_succ, List.map_append]; exact hown', below_grown hb hown hg hsz (Nat.le_refl _)⟩
      case measure => simp [intOf]; omega
    · obtain rfl : k = l.length := by omega
      obtain ⟨av, cv, rfl, hn, hcv, hrd⟩ := Rd.of_owns hown
      have HRD := Lib.hid hrd
      simp only [List.length_range] at hcv
      have e1 : (List.range l.length).length = l.length := List.length_range
      rw [e1]
      clear hrd hown hlt hn e1
      go_wp2
      go_loopw [8, 10, 11] (fun v at_ lk wr => ∃ (lo hi k : Nat) (av : Option Addr) (cv : Nat), v = .slice av (hi - lo : Nat) cv ∧ at_ = .int .i64 lo ∧ lk = .int .i64 k ∧ lo ≤ hi ∧ hi ≤ l.length ∧ k + (hi - lo) ≤ l.length ∧ hi - lo ≤ cv ∧
          Hid (Rd (fun j : Nat => .int .i64 j) wr av (List.range' lo (hi - lo))) ∧ Below w.heap.size w wr ∧ Hid (bsrch (lkP l x ab) l.length lo hi k = (r1, r2)))
        (fun v _ _ _ => match v with | .slice _ n _ => n | _ => 0)
      case atStart => exact ⟨0, l.length, 0, av, cv, rfl, rfl, rfl, Nat.zero_le _, Nat.le_refl _, by omega, hcv, by rw [← List.range_eq_range']; exact HRD, hb, HR⟩
      case round =>
        clear hb hcv HRD HR
        obtain ⟨lo, hi, k, av, cv, rfl, rfl, rfl, hlh, hin, hk, hcv, HRD, hb, I⟩ := hrel
        by_cases hlt : lo < hi
        · obtain ⟨b, off, rfl, hbl, hc⟩ := HRD.out.get (by simp; omega)
          have hm : (lo + (hi - lo) / 2) < l.length := by omega
          have ch := rHalf (some ⟨b, off, none⟩) (List.range' lo (hi - lo)) (hi - lo) cv wr (by simp) HRD.out (by simp; omega) (by simp; omega)
          rw [show (List.range' lo (hi - lo)).getD ((hi - lo) / 2) 0 = lo + (hi - lo) / 2 by simp [List.getD, show (hi - lo) / 2 < hi - lo by omega]] at ch
          replace ch := Lib.hid ch
          have I2 := I.out
          rw [bsrch_fuel (lkP l x ab) l.length (l.length + 1) lo hi k (by omega) (by omega), bsrch, if_pos hlt] at I2
          obtain ⟨b1, off1, rfl, hb1, hc1⟩ := (H.out.below hb).get (by omega)
          have hx := hc1 (lo + (hi - lo) / 2) hm
          have hp : lkP l x ab (lo + (hi - lo) / 2) = if ab then decide (x < l[lo + (hi - lo) / 2]) else decide (x ≤ l[lo + (hi - lo) / 2]) := by simp [lkP, hm]
          rw [hp] at I2
          have HT : Hid (Rd (fun j : Nat => .int .i64 j) wr (some ⟨b, off, none⟩) (List.range' lo ((hi - lo) / 2))) := (HRD.out.take ((hi - lo) / 2)).cast (range'_take lo (hi - lo) _ (by omega))
          have HD : Hid (Rd (fun j : Nat => .int .i64 j) wr (some ⟨b, off + ((hi - lo) / 2 + 1), none⟩) (List.range' (lo + (hi - lo) / 2 + 1) (hi - lo - ((hi - lo) / 2 + 1)))) := (HRD.out.drop ((hi - lo) / 2 + 1)).cast (range'_tail lo (hi - lo) _)
          have e2 : ((((hi - lo : Nat) : Int) / 2).toNat) = (hi - lo) / 2 := by omega
          have e3 : ((((hi - lo : Nat) : Int) / 2 + 1).toNat) = (hi - lo) / 2 + 1 := by omega
          have e4 : (((lo : Int) + ((hi - lo : Nat) : Int) / 2).toNat) = lo + (hi - lo) / 2 := by omega
          rw [show ((lo + (hi - lo) / 2 : Nat) : Int) = (lo : Int) + ((hi - lo : Nat) : Int) / 2 by omega] at ch
          clear hp I HRD hc1 hc H
          generalize l[lo + (hi - lo) / 2] = y at *
          have hcases : x < y ∨ (x = y ∧ ab = false) ∨ (x = y ∧ ab = true) ∨ y < x := by rcases Int.lt_trichotomy x y with h | h | h <;> cases ab <;> simp [h]
          rcases hcases with hxy | ⟨hxy, rfl⟩ | ⟨hxy, rfl⟩ | hxy
          · have HI : Hid (bsrch (lkP l x ab) l.length lo (lo + (hi - lo) / 2) (k + 1) = (r1, r2)) := by
              rw [if_pos (by cases ab <;> simp <;> omega)] at I2; exact I2
            clear I2 HD
            go_wp2_with (go_at_call 61; refine ch.out.mono ?_; rintro e w2 ⟨rfl, hb2⟩; have hx2 := (hb2.cell (p := ⟨b1, off1 + (lo + (hi - lo) / 2), none⟩) hb1).trans hx)
            go_roundw
            case rel => exact ⟨lo, lo + (hi - lo) / 2, k + 1, _, cv, by rw [show lo + (hi - lo) / 2 - lo = (hi - lo) / 2 by omega], rfl, by go_num, by omega, by omega, by omega, by omega, by rw [show lo + (hi - lo) / 2 - lo = (hi - lo) / 2 by omega]; exact HT.out.below hb2, hb.trans (hb2.mono hb.size), HI.out⟩
            case measure => simp; omega
          · subst hxy
            have HI : Hid (bsrch (lkP l x false) l.length lo (lo + (hi - lo) / 2) (k + 1) = (r1, r2)) := by
              rw [if_pos (by simp)] at I2; exact I2
            clear I2 HD
            go_wp2_with (go_at_call 61; refine ch.out.mono ?_; rintro e w2 ⟨rfl, hb2⟩; have hx2 := (hb2.cell (p := ⟨b1, off1 + (lo + (hi - lo) / 2), none⟩) hb1).trans hx)
            go_roundw
            case rel => exact ⟨lo, lo + (hi - lo) / 2, k + 1, _, cv, by rw [show lo + (hi - lo) / 2 - lo = (hi - lo) / 2 by omega], rfl, by go_num, by omega, by omega, by omega, by omega, by rw [show lo + (hi - lo) / 2 - lo = (hi - lo) / 2 by omega]; exact HT.out.below hb2, hb.trans (hb2.mono hb.size), HI.out⟩
            case measure => simp; omega
          · subst hxy
            have HI : Hid (bsrch (lkP l x true) l.length (lo + (hi - lo) / 2 + 1) hi (k + 1) = (r1, r2)) := by
              rw [if_neg (by simp)] at I2; exact I2
            clear I2 HT
            by_cases hcv1 : cv = (hi - lo) / 2 + 1
            · obtain rfl := hcv1
              have hz : hi - (lo + (hi - lo) / 2 + 1) = 0 := by omega
              have HZ := Lib.hid hz
              clear hz HD
              go_wp2_with (go_at_call 61; refine ch.out.mono ?_; rintro e w2 ⟨rfl, hb2⟩; have hx2 := (hb2.cell (p := ⟨b1, off1 + (lo + (hi - lo) / 2), none⟩) hb1).trans hx)
              go_roundw
              case rel => exact ⟨lo + (hi - lo) / 2 + 1, hi, k + 1, _, _, by rw [HZ.out], by go_num, by go_num, by omega, by omega, by omega, by omega, by rw [HZ.out]; exact .inr ⟨b, off, rfl, Nat.lt_of_lt_of_le hbl hb2.size, fun i hi => by simp at hi⟩, hb.trans (hb2.mono hb.size), HI.out⟩
              case measure => simp; omega
            · go_wp2_with (go_at_call 61; refine ch.out.mono ?_; rintro e w2 ⟨rfl, hb2⟩; have hx2 := (hb2.cell (p := ⟨b1, off1 + (lo + (hi - lo) / 2), none⟩) hb1).trans hx)
              go_roundw
              case rel => exact ⟨lo + (hi - lo) / 2 + 1, hi, k + 1, _, _, by rw [show hi - (lo + (hi - lo) / 2 + 1) = hi - lo - ((hi - lo) / 2 + 1) by omega], by go_num, by go_num, by omega, by omega, by omega, by omega, by rw [show hi - (lo + (hi - lo) / 2 + 1) = hi - lo - ((hi - lo) / 2 + 1) by omega]; exact HD.out.below hb2, hb.trans (hb2.mono hb.size), HI.out⟩
              case measure => simp; omega
          · have HI : Hid (bsrch (lkP l x ab) l.length (lo + (hi - lo) / 2 + 1) hi (k + 1) = (r1, r2)) := by
              rw [if_neg (by cases ab <;> simp <;> omega)] at I2; exact I2
            clear I2 HT
            by_cases hcv1 : cv = (hi - lo) / 2 + 1
            · obtain rfl := hcv1
              have hz : hi - (lo + (hi - lo) / 2 + 1) = 0 := by omega
              have HZ := Lib.hid hz
              clear hz HD
              go_wp2_with (go_at_call 61; refine ch.out.mono ?_; rintro e w2 ⟨rfl, hb2⟩; have hx2 := (hb2.cell (p := ⟨b1, off1 + (lo + (hi - lo) / 2), none⟩) hb1).trans hx)
              go_roundw
              case rel => exact ⟨lo + (hi - lo) / 2 + 1, hi, k + 1, _, _, by rw [HZ.out], by go_num, by go_num, by omega, by omega, by omega, by omega, by rw [HZ.out]; exact .inr ⟨b, off, rfl, Nat.lt_of_lt_of_le hbl hb2.size, fun i hi => by simp at hi⟩, hb.trans (hb2.mono hb.size), HI.out⟩
              case measure => simp; omega
            · go_wp2_with (go_at_call 61; refine ch.out.mono ?_; rintro e w2 ⟨rfl, hb2⟩; have hx2 := (hb2.cell (p := ⟨b1, off1 + (lo + (hi - lo) / 2), none⟩) hb1).trans hx)
              go_roundw
              case rel => exact ⟨lo + (hi - lo) / 2 + 1, hi, k + 1, _, _, by rw [show hi - (lo + (hi - lo) / 2 + 1) = hi - lo - ((hi - lo) / 2 + 1) by omega], by go_num, by go_num, by omega, by omega, by omega, by omega, by rw [show hi - (lo + (hi - lo) / 2 + 1) = hi - lo - ((hi - lo) / 2 + 1) by omega]; exact HD.out.below hb2, hb.trans (hb2.mono hb.size), HI.out⟩
              case measure => simp; omega
        · obtain rfl : hi = lo := by omega
          have I2 := I.out
          have I3 : bsrch (lkP l x ab) l.length hi hi k = (hi, k) := by cases l.length <;> simp [bsrch]
          rw [I3] at I2
          cases I2
          clear I3 I HRD
          rw [Nat.sub_self]
          go_wp2
          go_ret2
          exact ⟨rfl, hb⟩

end Go.Proofs.Ytlhmipjbpbbcbaa
