/- slices.Sort at uint32: a row that is written over and over (Row); siftDownOrdered. -/
import Derived.Test.YtpebefcmloablaaU32A
import Derived.Sort.WalkB2
namespace Go.Proofs.Ytpebefcmloablaa
open Go.RowKit Go.Sort

/-- the world w in which the row at (blk, off) holds dk, some draws further -/
def Row (blk off : Nat) (w : World) (dk : Array Int) (wr : World) : Prop := ∃ n, wr = putRow e32 (Sort.ahead w n) blk off dk

section
variable {blk off : Nat} {w wr : World} {d dk : Array Int}
theorem Row.self (h : Holds e32 w blk off d) : Row blk off w d w := ⟨0, (putRow_self _ _ _ _ _ h).symm⟩
theorem Row.holds (hr : Row blk off w dk wr) (h : Holds e32 w blk off d) (hs : dk.size = d.size) : Holds e32 wr blk off dk := by
  obtain ⟨n, rfl⟩ := hr
  exact holds_putRow _ _ _ _ _ _ (holds_ahead _ _ _ _ _ _ h) hs
theorem Row.cells (hr : Row blk off w dk wr) (h : Holds e32 w blk off d) (hs : dk.size = d.size) (t : Nat) (ht : t < d.size) : wr.cell? ⟨blk, off + t, none⟩ = some (.int .u32 dk[t]!) := (hr.holds h hs t (by omega)).1
theorem Row.fz (hr : Row blk off w dk wr) (h : Holds e32 w blk off d) (hs : dk.size = d.size) (t : Nat) (ht : t < d.size) : wr.frozen? ⟨blk, off + t, none⟩ = false := (hr.holds h hs t (by omega)).2
theorem Row.drewN (hr : Row blk off w dk wr) (q : Nat) : Row blk off w dk (wr.drewN q) := by
  obtain ⟨n, rfl⟩ := hr
  exact ⟨n + q, putRow_drewN _ _ _ _ _ _ _⟩
theorem Row.drew (hr : Row blk off w dk wr) : Row blk off w dk wr.drew := hr.drewN 1
theorem Row.swap (hr : Row blk off w dk wr) {j k : Nat} (hj : j < dk.size) (hk : k < dk.size) : Row blk off w (swp dk j k) ((wr.setCell ⟨blk, off + j, none⟩ (.int .u32 dk[k]!)).setCell ⟨blk, off + k, none⟩ (.int .u32 dk[j]!)) := by
  obtain ⟨n, rfl⟩ := hr
  exact ⟨n, putRow_swp e32 _ _ _ _ _ _ hj hk⟩
theorem Row.trans {w' : World} {d' : Array Int} (hr : Row blk off w dk wr) (hs : d'.size = dk.size) (h2 : Row blk off wr d' w') : Row blk off w d' w' := by
  obtain ⟨n, rfl⟩ := hr
  obtain ⟨m, rfl⟩ := h2
  exact ⟨n + m, by rw [putRow_ahead_putRow _ _ _ _ _ _ _ _ hs]⟩
end

set_option maxRecDepth 100000 in
set_option maxHeartbeats 4000000 in
theorem sift32 (blk off len cap : Nat) (d : Array Int) (hlen : d.size = len) (lo hi first : Nat) (w : World) (hH : Holds e32 w blk off d) (hlo : lo ≤ hi) (hb : first + hi ≤ len) (hsz : len < 4611686018427387904) :
    Calls Try.prog 109 #[.slice (some ⟨blk, off, none⟩) len cap, .int .i64 lo, .int .i64 hi, .int .i64 first] w fun e w' => e = .returned (.tuple #[]) ∧ Row blk off w (siftDown ltInt hi first lo d) w' := by
  subst hlen
  have HH := Lib.hid hH
  clear hH
  go_enter Try.func109, Try.ntmps109
  go_wp2
  go_loopw [8, 9] (fun v8 _ wr => ∃ (root : Nat) (dk : Array Int), v8 = .int .i64 root ∧ root ≤ hi ∧ Hid (dk.size = d.size) ∧ Hid (Row blk off w dk wr) ∧ Hid (siftDown ltInt hi first root dk = siftDown ltInt hi first lo d)) (fun v8 _ _ => hi - (intOf v8).toNat)
  case atStart => exact ⟨lo, d, rfl, hlo, rfl, Row.self HH.out, rfl⟩
  case round =>
    obtain ⟨root, dk, rfl, hr, hds, HR, HE⟩ := hrel
    obtain ⟨G, hG⟩ : ∃ G : Nat → Int, ∀ t, G t = dk[t]! := ⟨fun t => dk[t]!, fun _ => rfl⟩
    have HG := Lib.hid hG
    clear hG
    have hcw : ∀ t, t < d.size → wr.cell? ⟨blk, off + t, none⟩ = some (.int .u32 (G t)) := fun t ht => by rw [HG.out]; exact HR.out.cells HH.out hds.out t ht
    have hfw : ∀ t, t < d.size → wr.frozen? ⟨blk, off + t, none⟩ = false := fun t ht => HR.out.fz HH.out hds.out t ht
    by_cases h0 : hi ≤ 2 * root + 1
    · have h0z : (hi : Int) ≤ 2 * (root : Int) + 1 := by omega
      clear hcw hfw
      go_wp2
      first
      | (refine bodyPost_ret (results_none rfl _ _ _) rfl ?_; exact ⟨rfl, by rw [← HE.out, sd_end ltInt dk h0]; exact HR.out⟩)
      | (go_end0; exact ⟨rfl, by rw [← HE.out, sd_end ltInt dk h0]; exact HR.out⟩)
    · have h0z : ¬ ((hi : Int) ≤ 2 * (root : Int) + 1) := by omega
      by_cases h1 : 2 * root + 2 < hi
      · have h1z : decide (2 * (root : Int) + 1 + 1 < (hi : Int)) = true := by simp; omega
        have h1y : 2 * (root : Int) + 1 + 1 < (hi : Int) := by omega
        go_wp2
        go_big_quiet ((go_at_call 92; exact Calls.quiet_of_same (less32 _ _ _)))
        go_wp2
        · have hL : ltInt (G (first + (2 * root + 1))) (G (first + (2 * root + 1) + 1)) = true := by assumption
          rw [HG.out, HG.out] at hL
          have HLs := Lib.hid hL
          clear hL
          obtain ⟨wr2, e2⟩ : ∃ x, x = wr.drewN nq := ⟨_, rfl⟩
          have HR2 : Hid (Row blk off w dk wr2) := by rw [e2]; exact HR.out.drewN nq
          rw [← e2]
          clear e2 hcw hfw HR
          have hcw : ∀ t, t < d.size → wr2.cell? ⟨blk, off + t, none⟩ = some (.int .u32 (G t)) := fun t ht => by rw [HG.out]; exact HR2.out.cells HH.out hds.out t ht
          have hfw : ∀ t, t < d.size → wr2.frozen? ⟨blk, off + t, none⟩ = false := fun t ht => HR2.out.fz HH.out hds.out t ht
          go_wp2
          revert nq
          intro _
          go_big_quiet ((go_at_call 92; exact Calls.quiet_of_same (less32 _ _ _)))
          go_wp2
          · have hS : ltInt (G (first + root)) (G (first + (2 * root + 1 + 1))) = false := by
              have h9 : (!ltInt (G (first + root)) (G (first + (2 * root + 1 + 1)))) = true := by assumption
              simpa using h9
            rw [HG.out, HG.out] at hS
            (try simp only [Exit.inBlock, Exit.then])
            refine bodyPost_ret (results_none rfl _ _ _) rfl ?_
            exact ⟨rfl, by rw [← HE.out, sd_right_stop ltInt dk h1 HLs.out hS]; exact HR2.out.drewN nq⟩
          · have hS : ltInt (G (first + root)) (G (first + (2 * root + 1 + 1))) = true := by
              have h9 : (!ltInt (G (first + root)) (G (first + (2 * root + 1 + 1)))) = false := by assumption
              simpa using h9
            rw [HG.out, HG.out] at hS
            have HS := Lib.hid hS
            clear hS
            obtain ⟨wr3, e3⟩ : ∃ x, x = wr2.drewN nq := ⟨_, rfl⟩
            have HR3 : Hid (Row blk off w dk wr3) := by rw [e3]; exact HR2.out.drewN nq
            rw [← e3]
            clear e3 hcw hfw HR2
            have hcw : ∀ t, t < d.size → wr3.cell? ⟨blk, off + t, none⟩ = some (.int .u32 (G t)) := fun t ht => by rw [HG.out]; exact HR3.out.cells HH.out hds.out t ht
            have hfw : ∀ t, t < d.size → wr3.frozen? ⟨blk, off + t, none⟩ = false := fun t ht => HR3.out.fz HH.out hds.out t ht
            go_region
            all_goals go_wp2
            all_goals go_roundw
            case rel => exact ⟨2 * root + 1 + 1, swp dk (first + root) (first + (2 * root + 1 + 1)), by go_num, by omega, by show _ = _; rw [size_swp]; exact hds.out, by
              show Row _ _ _ _ _
              rw [HG.out, HG.out]
              exact ((HR3.out).swap (by rw [hds.out]; omega) (by rw [hds.out]; omega)).drew, by show _ = _; rw [← HE.out, sd_right_go ltInt dk h1 HLs.out HS.out]⟩
            case measure => simp [intOf]; omega
        · have hL : ltInt (G (first + (2 * root + 1))) (G (first + (2 * root + 1) + 1)) = false := by assumption
          rw [HG.out, HG.out] at hL
          have HLs := Lib.hid hL
          clear hL
          obtain ⟨wr2, e2⟩ : ∃ x, x = wr.drewN nq := ⟨_, rfl⟩
          have HR2 : Hid (Row blk off w dk wr2) := by rw [e2]; exact HR.out.drewN nq
          rw [← e2]
          clear e2 hcw hfw HR
          have hcw : ∀ t, t < d.size → wr2.cell? ⟨blk, off + t, none⟩ = some (.int .u32 (G t)) := fun t ht => by rw [HG.out]; exact HR2.out.cells HH.out hds.out t ht
          have hfw : ∀ t, t < d.size → wr2.frozen? ⟨blk, off + t, none⟩ = false := fun t ht => HR2.out.fz HH.out hds.out t ht
          go_wp2
          revert nq
          intro _
          go_big_quiet ((go_at_call 92; exact Calls.quiet_of_same (less32 _ _ _)))
          go_wp2
          · have hS : ltInt (G (first + root)) (G (first + (2 * root + 1))) = false := by
              have h9 : (!ltInt (G (first + root)) (G (first + (2 * root + 1)))) = true := by assumption
              simpa using h9
            rw [HG.out, HG.out] at hS
            (try simp only [Exit.inBlock, Exit.then])
            refine bodyPost_ret (results_none rfl _ _ _) rfl ?_
            exact ⟨rfl, by rw [← HE.out, sd_left_stop ltInt dk (by omega) (fun _ => HLs.out) hS]; exact HR2.out.drewN nq⟩
          · have hS : ltInt (G (first + root)) (G (first + (2 * root + 1))) = true := by
              have h9 : (!ltInt (G (first + root)) (G (first + (2 * root + 1)))) = false := by assumption
              simpa using h9
            rw [HG.out, HG.out] at hS
            have HS := Lib.hid hS
            clear hS
            obtain ⟨wr3, e3⟩ : ∃ x, x = wr2.drewN nq := ⟨_, rfl⟩
            have HR3 : Hid (Row blk off w dk wr3) := by rw [e3]; exact HR2.out.drewN nq
            rw [← e3]
            clear e3 hcw hfw HR2
            have hcw : ∀ t, t < d.size → wr3.cell? ⟨blk, off + t, none⟩ = some (.int .u32 (G t)) := fun t ht => by rw [HG.out]; exact HR3.out.cells HH.out hds.out t ht
            have hfw : ∀ t, t < d.size → wr3.frozen? ⟨blk, off + t, none⟩ = false := fun t ht => HR3.out.fz HH.out hds.out t ht
            go_region
            all_goals go_wp2
            all_goals go_roundw
            case rel => exact ⟨2 * root + 1, swp dk (first + root) (first + (2 * root + 1)), by go_num, by omega, by show _ = _; rw [size_swp]; exact hds.out, by
              show Row _ _ _ _ _
              rw [HG.out, HG.out]
              exact ((HR3.out).swap (by rw [hds.out]; omega) (by rw [hds.out]; omega)).drew, by show _ = _; rw [← HE.out, sd_left_go ltInt dk (by omega) (fun _ => HLs.out) HS.out]⟩
            case measure => simp [intOf]; omega
      · have h1z : decide (2 * (root : Int) + 1 + 1 < (hi : Int)) = false := decide_eq_false (by omega)
        go_wp2
        go_big_quiet ((go_at_call 92; exact Calls.quiet_of_same (less32 _ _ _)))
        go_wp2
        obtain ⟨wr2, e2⟩ : ∃ x, x = wr.drewN nq := ⟨_, rfl⟩
        have HR2 : Hid (Row blk off w dk wr2) := by rw [e2]; exact HR.out.drewN nq
        rw [← e2]
        clear e2 hcw hfw HR
        have hcw : ∀ t, t < d.size → wr2.cell? ⟨blk, off + t, none⟩ = some (.int .u32 (G t)) := fun t ht => by rw [HG.out]; exact HR2.out.cells HH.out hds.out t ht
        have hfw : ∀ t, t < d.size → wr2.frozen? ⟨blk, off + t, none⟩ = false := fun t ht => HR2.out.fz HH.out hds.out t ht
        go_wp2
        revert nq
        intro _
        go_big_quiet ((go_at_call 92; exact Calls.quiet_of_same (less32 _ _ _)))
        go_wp2
        · have hS : ltInt (G (first + root)) (G (first + (2 * root + 1))) = false := by
            have h9 : (!ltInt (G (first + root)) (G (first + (2 * root + 1)))) = true := by assumption
            simpa using h9
          rw [HG.out, HG.out] at hS
          (try simp only [Exit.inBlock, Exit.then])
          refine bodyPost_ret (results_none rfl _ _ _) rfl ?_
          exact ⟨rfl, by rw [← HE.out, sd_left_stop ltInt dk (by omega) (fun h => absurd h h1) hS]; exact HR2.out.drewN nq⟩
        · have hS : ltInt (G (first + root)) (G (first + (2 * root + 1))) = true := by
            have h9 : (!ltInt (G (first + root)) (G (first + (2 * root + 1)))) = false := by assumption
            simpa using h9
          rw [HG.out, HG.out] at hS
          have HS := Lib.hid hS
          clear hS
          obtain ⟨wr3, e3⟩ : ∃ x, x = wr2.drewN nq := ⟨_, rfl⟩
          have HR3 : Hid (Row blk off w dk wr3) := by rw [e3]; exact HR2.out.drewN nq
          rw [← e3]
          clear e3 hcw hfw HR2
          have hcw : ∀ t, t < d.size → wr3.cell? ⟨blk, off + t, none⟩ = some (.int .u32 (G t)) := fun t ht => by rw [HG.out]; exact HR3.out.cells HH.out hds.out t ht
          have hfw : ∀ t, t < d.size → wr3.frozen? ⟨blk, off + t, none⟩ = false := fun t ht => HR3.out.fz HH.out hds.out t ht
          go_region
          all_goals go_wp2
          all_goals go_roundw
          case rel => exact ⟨2 * root + 1, swp dk (first + root) (first + (2 * root + 1)), by go_num, by omega, by show _ = _; rw [size_swp]; exact hds.out, by
            show Row _ _ _ _ _
            rw [HG.out, HG.out]
            exact ((HR3.out).swap (by rw [hds.out]; omega) (by rw [hds.out]; omega)).drew, by show _ = _; rw [← HE.out, sd_left_go ltInt dk (by omega) (fun h => absurd h h1) HS.out]⟩
          case measure => simp [intOf]; omega

end Go.Proofs.Ytpebefcmloablaa
