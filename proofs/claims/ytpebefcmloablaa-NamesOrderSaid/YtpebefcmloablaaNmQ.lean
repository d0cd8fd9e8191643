/- The law NamesNone, but for awake. -/
import Derived.Test.YtpebefcmloablaaNmN
namespace Go.Proofs.Ytpebefcmloablaa
open Go.RowKit Go.Maps
set_option linter.unusedSimpArgs false
set_option linter.unusedVariables false

theorem NoneAt.below {A : Nat} {W W' : World} {v : Value} (h : NoneAt A W v) (hb : Below W.heap.size W W') : NoneAt A W' v := by
  rcases h with h | ⟨h1, h2⟩
  · exact .inl h
  · exact .inr ⟨h1, (hb.cell (p := ⟨A, 0, none⟩) (World.block_lt_of_cell? W _ h2)).trans h2⟩

set_option maxRecDepth 100000 in
set_option maxHeartbeats 4000000 in
theorem wNamesNone (AW : ∀ w, Calls Try.prog 36 #[] w fun e w' => e = .returned (.bool true) ∧ Below w.heap.size w w') (id pl : Int) (W : World) : Calls Try.prog 12 #[.int .u32 id, .int .i64 pl] W fun e w' => e = .returned (.bool true) ∧ Below W.heap.size W w' := by
  have AWH := Lib.hid AW
  obtain ⟨w1, hw1⟩ : ∃ w1, w1 = (W.alloc (.cells #[.pointer none, .slice none 0 0, .slice none 0 0, .slice none 0 0, .int .i64 0] 72)).alloc (.cells #[.pointer none, .pointer (some ⟨W.heap.size, 0, none⟩)] 47) := ⟨_, rfl⟩
  have HB1 : Hid (Below W.heap.size W w1) := by rw [hw1]; exact ((Below.refl _ _).alloc (Nat.le_refl _) _).alloc (by simp) _
  have q0 : w1.cell? ⟨W.heap.size + 1, 0, none⟩ = some (.pointer none) := by rw [hw1, World.cell?_alloc_at _ _ _ _ (by simp)]; rfl
  have q1 : w1.cell? ⟨W.heap.size + 1, 1, none⟩ = some (.pointer (some ⟨W.heap.size, 0, none⟩)) := by rw [hw1, World.cell?_alloc_at _ _ _ _ (by simp)]; rfl
  have q2 : w1.cell? ⟨W.heap.size, 0, none⟩ = some (.pointer none) := by
    have h1 : (W.alloc (.cells #[.pointer none, .slice none 0 0, .slice none 0 0, .slice none 0 0, .int .i64 0] 72)).cell? ⟨W.heap.size, 0, none⟩ = some (.pointer none) := by rw [World.cell?_alloc_at _ _ _ _ rfl]; rfl
    rw [hw1]
    exact (((Below.refl _ _).alloc (Nat.le_refl _) _).cell (p := ⟨W.heap.size, 0, none⟩) (by simp)).trans h1
  have hsz : W.heap.size + 1 < w1.heap.size := by rw [hw1]; simp
  have Q0 := Lib.hid q0
  have Q1 := Lib.hid q1
  have Q2 := Lib.hid q2
  have HW1 := Lib.hid hw1
  clear q0 q1 q2 hw1 AW
  go_enter Try.func12, Try.ntmps12
  go_wp2
  rw [← HW1.out]
  go_loopw [17] (fun kv wr => ∃ k : Nat, kv = .int .i64 k ∧ k ≤ 2 ∧ Below w1.heap.size w1 wr) (fun kv _ => 2 - (intOf kv).toNat)
  case atStart => exact ⟨0, rfl, by omega, Below.refl _ _⟩
  case round =>
    obtain ⟨k, rfl, hk, hb⟩ := hrel
    by_cases hk2 : k < 2
    · have hv : ∃ v, wr.cell? ⟨W.heap.size + 1, k, none⟩ = some v ∧ NoneAt W.heap.size wr v := by
        obtain rfl | rfl : k = 0 ∨ k = 1 := by omega
        · exact ⟨_, (hb.cell (p := ⟨W.heap.size + 1, 0, none⟩) hsz).trans Q0.out, .inl rfl⟩
        · exact ⟨_, (hb.cell (p := ⟨W.heap.size + 1, 1, none⟩) hsz).trans Q1.out, .inr ⟨rfl, (hb.cell (p := ⟨W.heap.size, 0, none⟩) (by show W.heap.size < _; omega)).trans Q2.out⟩⟩
      obtain ⟨v, hc, hv⟩ := hv
      have NV : Hid (∀ W', Below wr.heap.size wr W' → NoneAt W.heap.size W' v) := fun W' hW => hv.below hW
      have hki : (k : Int) < 2 := by omega
      obtain ⟨w0, ew0⟩ : ∃ w0 : World, w0 = wr := ⟨_, rfl⟩
      subst ew0
      have B0 : Below w0.heap.size w0 w0 := Below.refl _ _
      go_wp2_with fail
      refine (nm_put W.heap.size id pl w0 v (NV.out w0 B0)).mono ?_
      rintro e w1 ⟨rfl, hb1⟩
      have B1 := B0.trans (hb1.mono B0.size)
      go_wp2_with fail
      refine (nm_find W.heap.size id w1 v (NV.out w1 B1)).mono ?_
      rintro e w2 ⟨rfl, hb2⟩
      have B2 := B1.trans (hb2.mono B1.size)
      go_wp2_with fail
      refine (nm_drop W.heap.size id w2 v (NV.out w2 B2)).mono ?_
      rintro e w3 ⟨rfl, hb3⟩
      have B3 := B2.trans (hb3.mono B2.size)
      go_wp2_with fail
      refine (nm_len W.heap.size w3 v (NV.out w3 B3)).mono ?_
      rintro e w4 ⟨rfl, hb4⟩
      have B4 := B3.trans (hb4.mono B3.size)
      go_wp2_with fail
      refine (nm_stored W.heap.size w4 v (NV.out w4 B4)).mono ?_
      rintro e w5 ⟨rfl, hb5⟩
      have B5 := B4.trans (hb5.mono B4.size)
      go_wp2_with fail
      refine (nm_all W.heap.size w5 v (NV.out w5 B5)).mono ?_
      rintro e w6 ⟨rfl, hb6⟩
      have B6 := B5.trans (hb6.mono B5.size)
      have BF := hb.trans (B6.mono hb.size)
      clear hb1 hb2 hb3 hb4 hb5 hb6 B0 B1 B2 B3 B4 B5 B6
      go_wp2
      go_roundw
      case rel => exact ⟨k + 1, by go_num, by omega, BF⟩
      case measure => simp [intOf]; omega
    · obtain rfl : k = 2 := by omega
      have B2 := HB1.out.trans (hb.mono (by omega))
      go_wp2_with fail
      refine (AWH.out wr).mono ?_
      rintro e w5 ⟨rfl, hb5⟩
      go_wp2_with fail
      go_ret
      exact ⟨rfl, B2.trans (hb5.mono B2.size)⟩

end Go.Proofs.Ytpebefcmloablaa
