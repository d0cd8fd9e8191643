/- Package sort: Merge. -/
import Derived.Test.YtlhmipjbpbbcbaaKeyP
import Derived.Deep.RegionHeld3
namespace Go.Proofs.Ytlhmipjbpbbcbaa
open Go.RowKit

theorem bl {w a b : World} (h1 : Below w.heap.size w a) (h2 : Below a.heap.size a b) : Below w.heap.size w b := h1.trans (h2.mono h1.size)

/-- the places of two lists of keys together -/
def mrgL (l l' : List (Int × Int)) : List Nat := (List.range l.length).merge (List.range' l.length l'.length) (leK fun i => (l ++ l').getD i (0, 0))

set_option maxRecDepth 100000 in
set_option maxHeartbeats 2000000 in
theorem kMerge (a a' : Option Addr) (l l' : List (Int × Int)) (c c' : Nat) (w : World) (h : RdK eKey 2 w a l) (h' : RdK eKey 2 w a' l') (hl : l.length ≤ 200000) (hl' : l'.length ≤ 200000) :
    Calls Try.prog 32 #[.slice a l.length c, .slice a' l'.length c'] w fun e w' =>
      ((riseK l && riseK l') = false → e = .returned (.tuple #[.slice none 0 0, .int .i64 0, .int .i64 2])) ∧
      ((riseK l && riseK l') = true → ∃ v, e = .returned (.tuple #[v, .int .i64 (l.length + l'.length : Nat), .int .i64 0]) ∧ w'.ownsRow w.heap.size 3 1 v (l.length + l'.length) ((mrgL l l').map eNat)) ∧ Below w.heap.size w w' := by
  have H := Lib.hid h
  have H' := Lib.hid h'
  clear h h'
  have B0 : Below w.heap.size w ((w.alloc (.cells #[.slice a l.length c] 37)).alloc (.cells #[.slice a' l'.length c'] 37)) := ((Below.refl _ _).alloc (Nat.le_refl _) _).alloc (by simp) _
  have S1 := Lib.hid (fun W (hb : Below w.heap.size w W) => kIsSorted a l c W (H.out.below hb) hl)
  have S2 := Lib.hid (fun W (hb : Below w.heap.size w W) => kIsSorted a' l' c' W (H'.out.below hb) hl')
  by_cases hr : riseK l = true
  · by_cases hr' : riseK l' = true
    · rw [hr] at S1
      rw [hr'] at S2
      rw [hr, hr']
      clear hr hr'
      generalize hM : mrgL l l' = M
      have HM := Lib.hid hM
      clear hM
      go_enter Try.func32, Try.ntmps32
      go_wp2_with fail
      refine (S1.out _ B0).mono ?_
      rintro e w1 ⟨rfl, hb1⟩
      have B1 := B0.trans (hb1.mono B0.size)
      have x1 := (hb1.cell (p := ⟨w.heap.size, 0, none⟩) (by simp; omega)).trans (show ((w.alloc (.cells #[.slice a l.length c] 37)).alloc (.cells #[.slice a' l'.length c'] 37)).cell? ⟨w.heap.size, 0, none⟩ = some (.slice a l.length c) by simp)
      have x2 := (hb1.cell (p := ⟨w.heap.size + 1, 0, none⟩) (by simp)).trans (show ((w.alloc (.cells #[.slice a l.length c] 37)).alloc (.cells #[.slice a' l'.length c'] 37)).cell? ⟨w.heap.size + 1, 0, none⟩ = some (.slice a' l'.length c') by simp)
      go_wp2_with fail
      refine (S2.out _ B1).mono ?_
      rintro e w2 ⟨rfl, hb2⟩
      have B2 := B1.trans (hb2.mono B1.size)
      have y1 := (hb2.cell (p := ⟨w.heap.size, 0, none⟩) (World.block_lt_of_cell? _ _ x1)).trans x1
      have y2 := (hb2.cell (p := ⟨w.heap.size + 1, 0, none⟩) (World.block_lt_of_cell? _ _ x2)).trans x2
      clear x1 x2 S1 S2 hb1 hb2 B0 B1
      go_wp2_with fail
      have P0 : ∀ W : World, Calls Try.prog 50 #[.int .i64 0, .int .i64 l.length] W fun e w' => ∃ v, e = .returned v ∧ w'.ownsRow W.heap.size 3 1 v l.length ((List.range' 0 l.length).map eNat) ∧ Below W.heap.size W w' := fun W => kPlaces 0 l.length W (by omega) (by omega)
      have P1 := fun W => kPlaces l.length l'.length W (by omega) (by omega)
      have bD : Below w2.heap.size w2 w2.drew := (Below.refl _ _).drew
      have z1 : w.heap.size < w2.heap.size := World.block_lt_of_cell? _ _ y1
      have z2 : w.heap.size + 1 < w2.heap.size := World.block_lt_of_cell? _ _ y2
      have HF : Hid (∀ (W : World) (i : Nat), Below w2.heap.size w2 W → i < l.length + l'.length →
          Calls Try.prog 55 (#[.int .i64 i] ++ #[.pointer (some ⟨w.heap.size, 0, none⟩), .pointer (some ⟨w.heap.size + 1, 0, none⟩)]) W fun e w' => e = .returned (.agg #[.int .i64 ((fun i => (l ++ l').getD i (0, 0)) i).1, .int .u32 ((fun i => (l ++ l').getD i (0, 0)) i).2]) ∧ Below W.heap.size W w') := by
        intro W i hb hi
        exact clMerge i _ _ a a' l l' c c' W ((hb.cell (p := ⟨w.heap.size, 0, none⟩) z1).trans y1) ((hb.cell (p := ⟨w.heap.size + 1, 0, none⟩) z2).trans y2) (H.out.below (bl B2 hb)) (H'.out.below (bl B2 hb)) hi (by omega)
      have MC : Hid (∀ (W : World) (a1 a2 : Option Addr) (c1 c2 : Nat), Below w2.heap.size w2 W → Rd eNat W a1 (List.range' 0 l.length) → Rd eNat W a2 (List.range' l.length l'.length) → l.length ≤ c1 → l'.length ≤ c2 →
          Calls Try.prog 56 #[.func (.func 55) #[] #[.pointer (some ⟨w.heap.size, 0, none⟩), .pointer (some ⟨w.heap.size + 1, 0, none⟩)], .slice a1 l.length c1, .slice a2 l'.length c2] W fun e w' => ∃ v, e = .returned (.tuple #[v, .int .i64 (l.length + l'.length : Nat)]) ∧ w'.ownsRow W.heap.size 3 1 v (l.length + l'.length) (M.map eNat) ∧ Below W.heap.size W w') := by
        intro W a1 a2 c1 c2 hb r1 r2 h1 h2
        have := kMerged 55 #[.pointer (some ⟨w.heap.size, 0, none⟩), .pointer (some ⟨w.heap.size + 1, 0, none⟩)] (fun i => (l ++ l').getD i (0, 0)) (l.length + l'.length) _ _ a1 a2 c1 c2 W r1 r2 (by simpa using h1) (by simpa using h2)
          (fun x hx => by simp at hx; omega) (fun x hx => by simp at hx; omega) (by simp; omega) entersMerge (fun W' i hb' hi => HF.out W' i (bl hb hb') hi)
        simp only [List.length_range'] at this
        rw [show (List.range' 0 l.length).merge (List.range' l.length l'.length) (leK fun i => (l ++ l').getD i (0, 0)) = M by rw [← HM.out, ← List.range_eq_range']; rfl] at this
        exact this
      have yd1 : w2.drew.cell? ⟨w.heap.size, 0, none⟩ = some (.slice a l.length c) := y1
      have yd2 : w2.drew.cell? ⟨w.heap.size + 1, 0, none⟩ = some (.slice a' l'.length c') := y2
      have PP0 := Lib.hid P0
      have PP1 := Lib.hid P1
      clear HF P0 P1 H H' HM
      go_region_held3 (fun w' => w'.cell? ⟨w.heap.size, 0, none⟩ = some (.slice a l.length c) ∧ w'.cell? ⟨w.heap.size + 1, 0, none⟩ = some (.slice a' l'.length c'))
        (first | (with_reducible exact ⟨yd1, yd2⟩) | (with_reducible exact ⟨kM1, kM2⟩) | (with_reducible exact ⟨kA1, kA2⟩) | (with_reducible exact ⟨kB1, kB2⟩))
        ((first
          | (go_at_call 56; refine (MC.out _ _ _ _ _ (by first | exact bl (bl bD bA) bB | exact bl (bl bD bB) bA) (by first | exact rA | exact rA.below bB) (by first | exact rB | exact rB.below bA) hcA hcB).mono ?_; rintro e wM ⟨vM, rfl, oM, bM⟩; have cMM : Below w2.heap.size w2 wM := (by first | exact bl (bl (bl bD bA) bB) bM | exact bl (bl (bl bD bB) bA) bM); have oMM := ownsRow_mono (base' := w.heap.size) oM (by first | exact (bl B2 (bl (bl bD bA) bB)).size | exact (bl B2 (bl (bl bD bB) bA)).size); have kM1 := (cMM.cell (p := ⟨w.heap.size, 0, none⟩) z1).trans y1; have kM2 := (cMM.cell (p := ⟨w.heap.size + 1, 0, none⟩) z2).trans y2)
          | (go_at_call 50; (with_reducible refine (PP0.out _).mono ?_); rintro e wA ⟨vA, rfl, oA, bA⟩; obtain ⟨aA, cA, rfl, -, hcA, rA⟩ := Rd.of_owns oA; simp only [List.length_range'] at hcA ⊢; have cAA : Below w2.heap.size w2 wA := (by first | exact bl bD bA | exact bl (bl bD bB) bA); have kA1 := (cAA.cell (p := ⟨w.heap.size, 0, none⟩) z1).trans y1; have kA2 := (cAA.cell (p := ⟨w.heap.size + 1, 0, none⟩) z2).trans y2)
          | (go_at_call 50; (with_reducible refine (PP1.out _).mono ?_); rintro e wB ⟨vB, rfl, oB, bB⟩; obtain ⟨aB, cB, rfl, -, hcB, rB⟩ := Rd.of_owns oB; simp only [List.length_range'] at hcB ⊢; have cBB : Below w2.heap.size w2 wB := (by first | exact bl bD bB | exact bl (bl bD bA) bB); have kB1 := (cBB.cell (p := ⟨w.heap.size, 0, none⟩) z1).trans y1; have kB2 := (cBB.cell (p := ⟨w.heap.size + 1, 0, none⟩) z2).trans y2)))
      all_goals go_wp2
      all_goals go_ret3
      all_goals exact ⟨fun h => by (cases h), fun _ => ⟨vM, rfl, oMM⟩, bl B2 cMM⟩
    · have hr2 : riseK l' = false := by simpa using hr'
      rw [hr] at S1
      rw [hr2] at S2
      rw [hr, hr2]
      clear hr hr' hr2
      go_enter Try.func32, Try.ntmps32
      go_wp2_with fail
      refine (S1.out _ B0).mono ?_
      rintro e w1 ⟨rfl, hb1⟩
      have B1 := B0.trans (hb1.mono B0.size)
      have x2 := (hb1.cell (p := ⟨w.heap.size + 1, 0, none⟩) (by simp)).trans (show ((w.alloc (.cells #[.slice a l.length c] 37)).alloc (.cells #[.slice a' l'.length c'] 37)).cell? ⟨w.heap.size + 1, 0, none⟩ = some (.slice a' l'.length c') by simp)
      go_wp2_with fail
      refine (S2.out _ B1).mono ?_
      rintro e w2 ⟨rfl, hb2⟩
      have B2 := B1.trans (hb2.mono B1.size)
      clear x2 S1 S2 hb1 hb2 B0 B1
      go_wp2_with fail
      go_ret3
      exact ⟨fun _ => rfl, fun h => by (cases h), B2⟩
  · have hr2 : riseK l = false := by simpa using hr
    rw [hr2] at S1
    rw [hr2]
    clear hr hr2
    go_enter Try.func32, Try.ntmps32
    go_wp2_with fail
    refine (S1.out _ B0).mono ?_
    rintro e w1 ⟨rfl, hb1⟩
    have B1 := B0.trans (hb1.mono B0.size)
    clear S1 S2 hb1 B0
    go_wp2_with fail
    go_ret3
    exact ⟨fun _ => rfl, fun h => by (cases h), B1⟩

theorem kMergeYes (a a' : Option Addr) (l l' : List (Int × Int)) (c c' : Nat) (w : World) (h : RdK eKey 2 w a l) (h' : RdK eKey 2 w a' l') (hl : l.length ≤ 200000) (hl' : l'.length ≤ 200000) (hr : (riseK l && riseK l') = true) :
    Calls Try.prog 32 #[.slice a l.length c, .slice a' l'.length c'] w fun e w' =>
      ∃ v, e = .returned (.tuple #[v, .int .i64 (l.length + l'.length : Nat), .int .i64 0]) ∧ w'.ownsRow w.heap.size 3 1 v (l.length + l'.length) ((mrgL l l').map eNat) ∧ Below w.heap.size w w' :=
  (kMerge a a' l l' c c' w h h' hl hl').mono fun _ _ ⟨_, h2, h3⟩ => let ⟨v, e1, o⟩ := h2 hr; ⟨v, e1, o, h3⟩

theorem kMergeNo (a a' : Option Addr) (l l' : List (Int × Int)) (c c' : Nat) (w : World) (h : RdK eKey 2 w a l) (h' : RdK eKey 2 w a' l') (hl : l.length ≤ 200000) (hl' : l'.length ≤ 200000) (hr : (riseK l && riseK l') = false) :
    Calls Try.prog 32 #[.slice a l.length c, .slice a' l'.length c'] w fun e w' => e = .returned (.tuple #[.slice none 0 0, .int .i64 0, .int .i64 2]) ∧ Below w.heap.size w w' :=
  (kMerge a a' l l' c c' w h h' hl hl').mono fun _ _ ⟨h1, _, h3⟩ => ⟨h1 hr, h3⟩

end Go.Proofs.Ytlhmipjbpbbcbaa
