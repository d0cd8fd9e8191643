/- slices.Sort at uint32: reverseRangeOrdered. -/
import Derived.Test.YtpebefcmloablaaU32C
namespace Go.Proofs.Ytpebefcmloablaa
open Go.RowKit Go.Sort

theorem revLoop_stop (i j : Nat) (d : Array Int) (h : ¬ i < j) : reverseLoop i j d = d := by rw [reverseLoop, if_neg h]
theorem revLoop_go (i j : Nat) (d : Array Int) (h : i < j) : reverseLoop i j d = reverseLoop (i + 1) (j - 1) (swp d i j) := by rw [reverseLoop, if_pos h]

set_option maxRecDepth 100000 in
set_option maxHeartbeats 4000000 in
theorem rev32 (blk off len cap : Nat) (d : Array Int) (hlen : d.size = len) (a b : Nat) (w : World) (hH : Holds e32 w blk off d) (hab : a ≤ b) (hb : b ≤ len) (hsz : len < 4611686018427387904) :
    Calls Try.prog 90 #[.slice (some ⟨blk, off, none⟩) len cap, .int .i64 a, .int .i64 b] w fun e w' => e = .returned (.tuple #[]) ∧ Row blk off w (reverseRange d a b) w' := by
  subst hlen
  have HH := Lib.hid hH
  clear hH
  go_enter Try.func90, Try.ntmps90
  go_wp2
  go_loopw [6, 7] (fun v6 v7 wr => ∃ (i : Nat) (jz : Int) (dk : Array Int), v6 = .int .i64 i ∧ v7 = .int .i64 jz ∧ -1 ≤ jz ∧ a ≤ i ∧ (jz < a → jz = (a : Int) - 1 ∧ i = a ∧ b = a) ∧ jz < (d.size : Int) ∧ Hid (dk.size = d.size) ∧ Hid (Row blk off w dk wr) ∧ Hid (reverseLoop i jz.toNat dk = reverseRange d a b)) (fun v6 v7 _ => (intOf v7 - intOf v6).toNat)
  case atStart => exact ⟨a, (b : Int) - 1, d, rfl, rfl, by omega, Nat.le_refl _, fun h => ⟨by omega, rfl, by omega⟩, by omega, rfl, Row.self HH.out, by
    show _ = _
    unfold reverseRange
    rw [show ((b : Int) - 1).toNat = b - 1 by omega]⟩
  case round =>
    obtain ⟨i, jz, dk, rfl, rfl, hj1, hai, hjb, hjd, hds, HR, HE⟩ := hrel
    by_cases hlt : (i : Int) < jz
    · obtain ⟨j, rfl⟩ : ∃ j : Nat, jz = (j : Int) := ⟨jz.toNat, by omega⟩
      have hij : i < j := by omega
      have hjs : j < d.size := by omega
      obtain ⟨G, hG⟩ : ∃ G : Nat → Int, ∀ t, G t = dk[t]! := ⟨fun t => dk[t]!, fun _ => rfl⟩
      have HG := Lib.hid hG
      clear hG hjb hj1 hjd hlt
      have hcw : ∀ t, t < d.size → wr.cell? ⟨blk, off + t, none⟩ = some (.int .u32 (G t)) := fun t ht => by rw [HG.out]; exact HR.out.cells HH.out hds.out t ht
      have hfw : ∀ t, t < d.size → wr.frozen? ⟨blk, off + t, none⟩ = false := fun t ht => HR.out.fz HH.out hds.out t ht
      go_wp2
      go_region
      have HR2 := Lib.hid (HR.out.swap (j := i) (k := j) (by rw [hds.out]; omega) (by rw [hds.out]; omega)).drew
      rw [← HG.out, ← HG.out] at HR2
      clear hcw hfw
      generalize ((wr.setCell ⟨blk, off + i, none⟩ (.int .u32 (G j))).setCell ⟨blk, off + j, none⟩ (.int .u32 (G i))).drew = w2 at *
      go_wp2
      go_roundw
      case rel => exact ⟨i + 1, (j : Int) - 1, swp dk i j, by go_num, rfl, by omega, by omega, fun h => by omega, by omega, by show _ = _; rw [size_swp]; exact hds.out, HR2, by
        show _ = _
        rw [← HE.out, show ((j : Int) - 1).toNat = j - 1 by omega, Int.toNat_natCast, revLoop_go i j dk hij]⟩
      case measure => simp [intOf]; omega
    · go_wp2
      go_end0
      exact ⟨rfl, by rw [← HE.out, revLoop_stop _ _ _ (by omega)]; exact HR.out⟩

end Go.Proofs.Ytpebefcmloablaa
