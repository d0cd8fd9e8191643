/- slices.Sort at uint32: heapSortOrdered, reverseRangeOrdered. -/
import Derived.Test.YtpebefcmloablaaU32B
import Derived.Sort.WalkB3
namespace Go.Proofs.Ytpebefcmloablaa
open Go.RowKit Go.Sort

theorem size_sift (hi F root : Nat) (d : Array Int) : (siftDown ltInt hi F root d).size = d.size := size_siftDown ltInt hi F _ root d (Nat.le_refl _)

set_option maxRecDepth 100000 in
set_option maxHeartbeats 4000000 in
theorem heap32 (blk off len cap : Nat) (d : Array Int) (hlen : d.size = len) (a b : Nat) (w : World) (hH : Holds e32 w blk off d) (hab : a ≤ b) (hb : b ≤ len) (hsz : len < 4611686018427387904) :
    Calls Try.prog 87 #[.slice (some ⟨blk, off, none⟩) len cap, .int .i64 a, .int .i64 b] w fun e w' => e = .returned (.tuple #[]) ∧ Row blk off w (heapSort ltInt d a b) w' := by
  subst hlen
  have HH := Lib.hid hH
  clear hH
  have hst := half_start hab
  go_enter Try.func87, Try.ntmps87
  go_wp2
  go_loopw [9] (fun v9 wr => ∃ (z : Int) (k : Nat) (dk : Array Int), v9 = .int .i64 z ∧ z = (k : Int) - 1 ∧ k ≤ (b - a - 1) / 2 + 1 ∧ Hid (dk.size = d.size) ∧ Hid (Row blk off w dk wr) ∧ Hid (heapBuild ltInt (b - a) a k dk = heapBuild ltInt (b - a) a ((b - a - 1) / 2 + 1) d)) (fun v9 _ => (intOf v9 + 1).toNat)
  case atStart => exact ⟨((b - a - 1 : Nat) : Int) / 2, (b - a - 1) / 2 + 1, d, rfl, by omega, Nat.le_refl _, rfl, Row.self HH.out, rfl⟩
  case round =>
    obtain ⟨z, k, dk, rfl, hz, hk, hds, HR, HE⟩ := hrel
    clear hst
    cases k with
    | succ k =>
      obtain rfl : z = (k : Int) := by omega
      clear hz
      have C := sift32 blk off d.size cap dk hds.out k (b - a) a wr (HR.out.holds HH.out hds.out) (by omega) (by omega) hsz
      rw [show (((b - a : Nat)) : Int) = (b : Int) - (a : Int) by omega] at C
      have CC := Lib.hid C
      clear C
      go_wp2_with fail
      refine CC.out.mono ?_
      rintro e w2 ⟨rfl, hr2⟩
      have R2 := Lib.hid (HR.out.trans (size_sift _ _ _ _) hr2)
      go_wp2
      go_roundw
      case rel => exact ⟨(k : Int) - 1, k, siftDown ltInt (b - a) a k dk, by go_num, rfl, by omega, by show _ = _; rw [size_sift]; exact hds.out, R2, HE.out⟩
      case measure => first | (simp [intOf]; done) | (simp [intOf]; omega)
    | zero =>
      obtain rfl : z = -1 := by omega
      clear hz hk
      have HE1 : Hid (heapSort ltInt d a b = heapPop ltInt a (b - a) dk) := by
        show _ = _
        unfold heapSort
        rw [← HE.out]
        rfl
      clear HE
      obtain ⟨w1, e1⟩ : ∃ x, x = wr := ⟨_, rfl⟩
      subst e1
      go_wp2
      go_loopw [10] (fun v10 wr => ∃ (z : Int) (k : Nat) (dj : Array Int), v10 = .int .i64 z ∧ z = (k : Int) - 1 ∧ k ≤ b - a ∧ Hid (dj.size = d.size) ∧ Hid (Row blk off w dj wr) ∧ Hid (heapPop ltInt a k dj = heapPop ltInt a (b - a) dk)) (fun v10 _ => (intOf v10 + 1).toNat)
      case atStart => exact ⟨(b : Int) - (a : Int) - 1, b - a, dk, rfl, by omega, Nat.le_refl _, hds, HR, rfl⟩
      case round =>
        clear hds HR
        obtain ⟨z, k, dj, rfl, hz, hk, hds, HR, HE⟩ := hrel
        cases k with
        | zero =>
          obtain rfl : z = -1 := by omega
          clear hz hk
          go_wp2
          go_end0
          exact ⟨rfl, by rw [HE1.out, ← HE.out]; exact HR.out⟩
        | succ k =>
          obtain rfl : z = (k : Int) := by omega
          clear hz
          obtain ⟨G, hG⟩ : ∃ G : Nat → Int, ∀ t, G t = dj[t]! := ⟨fun t => dj[t]!, fun _ => rfl⟩
          have HG := Lib.hid hG
          clear hG
          have hcw : ∀ t, t < d.size → wr.cell? ⟨blk, off + t, none⟩ = some (.int .u32 (G t)) := fun t ht => by rw [HG.out]; exact HR.out.cells HH.out hds.out t ht
          have hfw : ∀ t, t < d.size → wr.frozen? ⟨blk, off + t, none⟩ = false := fun t ht => HR.out.fz HH.out hds.out t ht
          have h1 : a + k < d.size := by omega
          have h2 : a < d.size := by omega
          have hk9 : k < b - a := by omega
          by_cases h0 : k = 0
          · subst h0
            go_wp2
            go_region
            have HR2 := Lib.hid (HR.out.swap (j := a) (k := a) (by rw [hds.out]; omega) (by rw [hds.out]; omega)).drew
            rw [← HG.out] at HR2
            clear hcw hfw
            generalize ((wr.setCell ⟨blk, off + a, none⟩ (.int .u32 (G a))).setCell ⟨blk, off + a, none⟩ (.int .u32 (G a))).drew = w2 at *
            have hs2 : (swp dj a a).size = d.size := by rw [size_swp]; exact hds.out
            have CC := Lib.hid (sift32 blk off d.size cap (swp dj a a) hs2 0 0 a w2 (HR2.out.holds HH.out hs2) (by omega) (by omega) hsz)
            clear hs2
            go_wp2_with fail
            refine CC.out.mono ?_
            rintro e w3 ⟨rfl, hr3⟩
            have R3 := Lib.hid (HR2.out.trans (size_sift _ _ _ _) hr3)
            clear hr3 CC
            go_wp2
            go_roundw
            case rel => exact ⟨-1, 0, siftDown ltInt 0 a 0 (swp dj a a), by go_num, rfl, by omega, by show _ = _; rw [size_sift, size_swp]; exact hds.out, R3, HE.out⟩
            case measure => first | (simp [intOf]; done) | (simp [intOf]; omega)
          · have h3 : a < a + k := by omega
            go_wp2
            go_region
            have HR2 := Lib.hid (HR.out.swap (j := a) (k := a + k) (by rw [hds.out]; omega) (by rw [hds.out]; omega)).drew
            rw [← HG.out, ← HG.out] at HR2
            clear hcw hfw
            generalize ((wr.setCell ⟨blk, off + a, none⟩ (.int .u32 (G (a + k)))).setCell ⟨blk, off + (a + k), none⟩ (.int .u32 (G a))).drew = w2 at *
            have hs2 : (swp dj a (a + k)).size = d.size := by rw [size_swp]; exact hds.out
            have CC := Lib.hid (sift32 blk off d.size cap (swp dj a (a + k)) hs2 0 k a w2 (HR2.out.holds HH.out hs2) (by omega) (by omega) hsz)
            clear hs2
            go_wp2_with fail
            refine CC.out.mono ?_
            rintro e w3 ⟨rfl, hr3⟩
            have R3 := Lib.hid (HR2.out.trans (size_sift _ _ _ _) hr3)
            clear hr3 CC
            go_wp2
            go_roundw
            case rel => exact ⟨(k : Int) - 1, k, siftDown ltInt k a 0 (swp dj a (a + k)), by go_num, rfl, by omega, by show _ = _; rw [size_sift, size_swp]; exact hds.out, R3, HE.out⟩
            case measure => first | (simp [intOf]; done) | (simp [intOf]; omega)

end Go.Proofs.Ytpebefcmloablaa
