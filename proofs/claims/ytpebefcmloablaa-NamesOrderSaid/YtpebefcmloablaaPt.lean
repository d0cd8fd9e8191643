/- Points in memory; package item: ByX, Over. -/
import Derived.Test.YtpebefcmloablaaCmp
import Derived.Test.YtpebefcmloablaaStr
import Derived.Test.YtpebefcmloablaaPtP
import Derived.StillTailTactics
import Derived.Sort.Grow
namespace Go.Proofs.Ytpebefcmloablaa
open Go.RowKit

def ePt (p : Pt) : List Value := [.int .i64 p.1, .int .i64 p.2.1, .int .u32 p.2.2]
theorem ePt_len (p : Pt) : (ePt p).length = 3 := rfl
theorem ePt_one (p : Pt) : ∀ u ∈ ePt p, u.oneCell' = true := by intro u hu; simp [ePt] at hu; rcases hu with rfl | rfl | rfl <;> rfl
abbrev vPt (x y i : Int) : Value := .agg #[.int .i64 x, .int .i64 y, .int .u32 i]

/-- draws, and new blocks behind -/
def Grw (w w' : World) : Prop := ∃ q os, w' = Sort.grow (w.drewN q) os
theorem Grw.refl (w : World) : Grw w w := ⟨0, #[], by rw [Sort.grow_empty]; rfl⟩
theorem Grw.alloc {w w' : World} (h : Grw w w') (o : Obj) : Grw w (w'.alloc o) := by
  obtain ⟨q, os, rfl⟩ := h
  exact ⟨q, os.push o, by simp [Sort.grow, World.alloc, World.drewN]⟩
theorem Grw.drew {w w' : World} (h : Grw w w') : Grw w w'.drew := by
  obtain ⟨q, os, rfl⟩ := h
  exact ⟨q + 1, os, rfl⟩
theorem Grw.below {w w' : World} (h : Grw w w') {B : Nat} (hB : B ≤ w.heap.size) : Below B w w' := by
  obtain ⟨q, os, rfl⟩ := h
  refine ⟨rfl, rfl, rfl, by simp [Sort.grow, World.drewN], fun k hk => ?_⟩
  show (w.heap ++ os)[k]? = _
  rw [Array.getElem?_append_left (by omega)]

def ordX (p q : Pt) : Int := if cmpI p.1 q.1 = 0 then cmpI p.2.2 q.2.2 else cmpI p.1 q.1
theorem ordX_lt (p q : Pt) : ordX p q < 0 ↔ ltX p q := by
  unfold ordX ltX cmpI
  repeat' split
  all_goals omega
theorem ordX_eq (p q : Pt) : ordX p q = 0 ↔ p.1 = q.1 ∧ p.2.2 = q.2.2 := by
  unfold ordX cmpI
  repeat' split
  all_goals omega

set_option maxHeartbeats 400000 in
theorem iFirst (a b : Int) (w : World) (n : Nat) (h0 : w.cell? ⟨n, 0, none⟩ = some (.int .i64 a)) (h1 : w.cell? ⟨n, 1, none⟩ = some (.int .i64 b)) :
    Calls Try.prog 81 #[.slice (some ⟨n, 0, none⟩) 2 2] w fun e w' => e = .returned (.int .i64 (if a = 0 then b else a)) ∧ w' = w := by
  by_cases ha : a = 0
  · subst ha
    rw [if_pos rfl]
    by_cases hb : b = 0
    · subst hb
      go_enter Try.func81, Try.ntmps81
      go_wp2
      go_loopw [7] (fun i wr => ∃ k : Nat, i = .int .i64 k ∧ k ≤ 2 ∧ wr = w) (fun i _ => 2 - (intOf i).toNat)
      case atStart => exact ⟨0, rfl, by omega, rfl⟩
      case round =>
        obtain ⟨k, rfl, hk, rfl⟩ := hrel
        by_cases h2 : k < 2
        · have hc : wr.cell? ⟨n, k, none⟩ = some (.int .i64 0) := by
            obtain rfl | rfl : k = 0 ∨ k = 1 := by omega
            · exact h0
            · exact h1
          clear h0 h1
          go_wp2
          go_roundw
          case rel => exact ⟨k + 1, by go_num, by omega, by first | rfl | trivial⟩
          case measure => simp [intOf]; omega
        · go_wp2
          go_ret
          exact ⟨rfl, rfl⟩
    · have hd : (b != 0) = true := by simp [hb]
      go_enter Try.func81, Try.ntmps81
      go_wp2
      go_loopw [7] (fun i wr => ∃ k : Nat, i = .int .i64 k ∧ k ≤ 1 ∧ wr = w) (fun i _ => 2 - (intOf i).toNat)
      case atStart => exact ⟨0, rfl, by omega, rfl⟩
      case round =>
        obtain ⟨k, rfl, hk, rfl⟩ := hrel
        by_cases h2 : k < 1
        · obtain rfl : k = 0 := by omega
          clear h1
          go_wp2
          go_roundw
          case rel => exact ⟨1, by go_num, by omega, by first | rfl | trivial⟩
          case measure => simp [intOf]
        · obtain rfl : k = 1 := by omega
          go_wp2
          go_ret
          exact ⟨rfl, rfl⟩
  · rw [if_neg ha]
    have hd : (a != 0) = true := by simp [ha]
    go_enter Try.func81, Try.ntmps81
    go_wp2
    go_loopw [7] (fun i wr => i = .int .i64 0 ∧ wr = w) (fun i _ => 2 - (intOf i).toNat)
    case atStart => exact ⟨rfl, rfl⟩
    case round =>
      obtain ⟨rfl, rfl⟩ := hrel
      go_wp2
      go_ret
      exact ⟨rfl, rfl⟩

set_option maxHeartbeats 400000 in
theorem iBy (a b x y : Int) (w : World) : Calls Try.prog 57 #[.int .i64 a, .int .i64 b, .int .u32 x, .int .u32 y] w fun e w' => e = .returned (.int .i64 (if cmpI a b = 0 then cmpI x y else cmpI a b)) ∧ Grw w w' := by
  have C1 := Lib.hid (fun W => cmpLong a b W)
  have C2 := Lib.hid (fun W => cmpName x y W)
  generalize cmpI a b = p at *
  generalize cmpI x y = q at *
  go_enter Try.func57, Try.ntmps57
  go_wp2_with fail
  refine (C1.out _).mono ?_
  rintro e w1 ⟨rfl, rfl⟩
  go_wp2_with fail
  refine (C2.out _).mono ?_
  rintro e w1 ⟨rfl, rfl⟩
  go_wp2_with fail
  refine (iFirst p q _ _ (by rw [World.cell?_alloc_at _ _ _ _ rfl]; rfl) (by rw [World.cell?_alloc_at _ _ _ _ rfl]; rfl)).mono ?_
  rintro e w1 ⟨rfl, rfl⟩
  go_wp2
  all_goals
    go_ret
    exact ⟨rfl, (Grw.refl _).alloc _⟩

theorem Grw.trans {w w1 w2 : World} (h : Grw w w1) (h2 : Grw w1 w2) : Grw w w2 := by
  obtain ⟨q, os, rfl⟩ := h
  obtain ⟨q2, os2, rfl⟩ := h2
  refine ⟨q + q2, os ++ os2, ?_⟩
  rw [← Sort.grow_grow]
  show Sort.grow (Sort.grow ((w.drewN q).drewN q2) os) os2 = _
  rw [World.drewN_drewN]

set_option maxHeartbeats 400000 in
theorem iByX (p q : Pt) (w : World) : Calls Try.prog 42 #[vPt p.1 p.2.1 p.2.2, vPt q.1 q.2.1 q.2.2] w fun e w' => e = .returned (.int .i64 (ordX p q)) ∧ Grw w w' := by
  have C1 := Lib.hid (fun W => iBy p.1 q.1 p.2.2 q.2.2 W)
  unfold ordX
  generalize (if cmpI p.1 q.1 = 0 then cmpI p.2.2 q.2.2 else cmpI p.1 q.1) = r at *
  go_enter Try.func42, Try.ntmps42
  go_wp2_with fail
  refine (C1.out _).mono ?_
  rintro e w1 ⟨rfl, h⟩
  go_wp2
  go_ret
  exact ⟨rfl, (((Grw.refl _).alloc _).alloc _).trans h⟩

theorem enters_ByX : ∀ args w, (callFunc 42 args).run Try.prog w = .ok (.enter 42 args) w := enters_of Try.func42 (by kernel_rfl) rfl

set_option maxHeartbeats 1000000 in
theorem iOver (q p : Pt) (w : World) : Calls Try.prog 26 #[vPt q.1 q.2.1 q.2.2, vPt p.1 p.2.1 p.2.2] w fun e w' => e = .returned (.bool (ovr q p)) ∧ Grw w w' := by
  obtain ⟨qx, qy, qi⟩ := q
  obtain ⟨px, py, pi⟩ := p
  have hg : ovr (qx, qy, qi) (px, py, pi) = (decide (px ≤ qx) && decide (py ≤ qy) && (!decide (qx = px) || !decide (qy = py))) := by simp [ovr]
  rw [hg]
  clear hg
  by_cases h1 : px ≤ qx
  · by_cases h2 : py ≤ qy
    · by_cases h3 : qx = px
      · by_cases h4 : qy = py
        · have d3 : (qx != px) = false := by simp [h3]
          have d4 : (qy != py) = false := by simp [h4]
          have R : (decide (px ≤ qx) && decide (py ≤ qy) && (!decide (qx = px) || !decide (qy = py))) = false := by simp [h3, h4]
          rw [R]
          clear h3 h4 R
          go_enter Try.func26, Try.ntmps26
          go_wp2
          go_ret
          exact ⟨rfl, ((Grw.refl _).alloc _).alloc _⟩
        · have d3 : (qx != px) = false := by simp [h3]
          have d4 : (qy != py) = true := by simp [h4]
          have R : (decide (px ≤ qx) && decide (py ≤ qy) && (!decide (qx = px) || !decide (qy = py))) = true := by simp [h1, h2, h4]
          rw [R]
          clear h3 h4 R
          go_enter Try.func26, Try.ntmps26
          go_wp2
          go_ret
          exact ⟨rfl, ((Grw.refl _).alloc _).alloc _⟩
      · have d3 : (qx != px) = true := by simp [h3]
        have R : (decide (px ≤ qx) && decide (py ≤ qy) && (!decide (qx = px) || !decide (qy = py))) = true := by simp [h1, h2, h3]
        rw [R]
        clear h3 R
        go_enter Try.func26, Try.ntmps26
        go_wp2
        go_ret
        exact ⟨rfl, ((Grw.refl _).alloc _).alloc _⟩
    · have d2 : decide (py ≤ qy) = false := by simp; omega
      have R : (decide (px ≤ qx) && decide (py ≤ qy) && (!decide (qx = px) || !decide (qy = py))) = false := by simp [h2]
      rw [R]
      clear R
      go_enter Try.func26, Try.ntmps26
      go_wp2
      go_ret
      exact ⟨rfl, ((Grw.refl _).alloc _).alloc _⟩
  · have d1 : decide (px ≤ qx) = false := by simp; omega
    have R : (decide (px ≤ qx) && decide (py ≤ qy) && (!decide (qx = px) || !decide (qy = py))) = false := by simp [h1]
    rw [R]
    clear R
    go_enter Try.func26, Try.ntmps26
    go_wp2
    go_ret
    exact ⟨rfl, ((Grw.refl _).alloc _).alloc _⟩

end Go.Proofs.Ytpebefcmloablaa
