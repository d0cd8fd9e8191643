/- gridironref15.Over. -/
import Derived.Test.YtpebefcmloablaaRfS
namespace Go.Proofs.Ytpebefcmloablaa
open Go.RowKit

set_option maxHeartbeats 1000000 in
theorem ref_over (q p : Pt) (w : World) : Calls Try.prog 44 #[vPt q.1 q.2.1 q.2.2, vPt p.1 p.2.1 p.2.2] w fun e w' => e = .returned (.bool (ovr q p)) ∧ Below w.heap.size w w' := by
  obtain ⟨qx, qy, qi⟩ := q
  obtain ⟨px, py, pi⟩ := p
  have BB : ∀ o1 o2, Below w.heap.size w ((w.alloc o1).alloc o2) := fun _ _ => ((Below.refl _ _).alloc (Nat.le_refl _) _).alloc (by simp) _
  by_cases h1 : px ≤ qx
  · by_cases h2 : py ≤ qy
    · by_cases h3 : px < qx
      · have R : ovr (qx, qy, qi) (px, py, pi) = true := by rw [ovr_iff]; simp only; omega
        rw [R]
        have d1 : decide (px ≤ qx) = true := by simp [h1]
        have d2 : decide (py ≤ qy) = true := by simp [h2]
        have d3 : decide (px < qx) = true := by simp [h3]
        go_enter Try.func44, Try.ntmps44
        go_wp2
        go_ret
        exact ⟨rfl, BB _ _⟩
      · by_cases h4 : py < qy
        · have R : ovr (qx, qy, qi) (px, py, pi) = true := by rw [ovr_iff]; simp only; omega
          rw [R]
          have d1 : decide (px ≤ qx) = true := by simp [h1]
          have d2 : decide (py ≤ qy) = true := by simp [h2]
          have d3 : decide (px < qx) = false := by simp; omega
          have d4 : decide (py < qy) = true := by simp [h4]
          go_enter Try.func44, Try.ntmps44
          go_wp2
          go_ret
          exact ⟨rfl, BB _ _⟩
        · have R : ovr (qx, qy, qi) (px, py, pi) = false := by rw [ovr_no]; simp only; omega
          rw [R]
          have d1 : decide (px ≤ qx) = true := by simp [h1]
          have d2 : decide (py ≤ qy) = true := by simp [h2]
          have d3 : decide (px < qx) = false := by simp; omega
          have d4 : decide (py < qy) = false := by simp; omega
          go_enter Try.func44, Try.ntmps44
          go_wp2
          go_ret
          exact ⟨rfl, BB _ _⟩
    · have R : ovr (qx, qy, qi) (px, py, pi) = false := by rw [ovr_no]; simp only; omega
      rw [R]
      have d1 : decide (px ≤ qx) = true := by simp [h1]
      have d2 : decide (py ≤ qy) = false := by simp; omega
      go_enter Try.func44, Try.ntmps44
      go_wp2
      go_ret
      exact ⟨rfl, BB _ _⟩
  · have R : ovr (qx, qy, qi) (px, py, pi) = false := by rw [ovr_no]; simp only; omega
    rw [R]
    have d1 : decide (px ≤ qx) = false := by simp; omega
    go_enter Try.func44, Try.ntmps44
    go_wp2
    go_ret
    exact ⟨rfl, BB _ _⟩

end Go.Proofs.Ytpebefcmloablaa
