/- Two stairs as one: the plain law. No function of the program is walked here. -/
import Derived.Test.YtpebefcmloablaaSkyOf
namespace Go.Proofs.Ytpebefcmloablaa

/-- two lists in order, as one -/
def mrgP : List Pt → List Pt → List Pt
  | [], B => B
  | A, [] => A
  | x :: A, y :: B => if ordX x y < 0 then x :: mrgP A (y :: B) else y :: mrgP (x :: A) B
termination_by A B => A.length + B.length

theorem mrgP_nil (B : List Pt) : mrgP [] B = B := by simp [mrgP]
theorem mrgP_nil2 (A : List Pt) : mrgP A [] = A := by cases A <;> simp [mrgP]
theorem mrgP_cons (x : Pt) (A : List Pt) (y : Pt) (B : List Pt) : mrgP (x :: A) (y :: B) = if ordX x y < 0 then x :: mrgP A (y :: B) else y :: mrgP (x :: A) B := by
  rw [mrgP]

theorem mrgP_perm : ∀ (n : Nat) (A B : List Pt), A.length + B.length ≤ n → (mrgP A B).Perm (A ++ B)
  | _, [], B, _ => by rw [mrgP_nil, List.nil_append]
  | _, x :: A, [], _ => by rw [mrgP_nil2, List.append_nil]
  | 0, _ :: _, _ :: _, h => by simp at h
  | n + 1, x :: A, y :: B, h => by
    rw [mrgP_cons]
    split
    · exact (mrgP_perm n A (y :: B) (by simp at h ⊢; omega)).cons x
    · refine ((mrgP_perm n (x :: A) B (by simp at h ⊢; omega)).cons y).trans ?_
      exact (List.perm_middle (l₁ := x :: A)).symm

theorem ltX_total {x y : Pt} (h : ¬ ltX x y) (hi : x.2.2 ≠ y.2.2) : ltX y x := by unfold ltX at *; omega

theorem mrgP_sorted : ∀ (n : Nat) (A B : List Pt), A.length + B.length ≤ n → A.Pairwise ltX → B.Pairwise ltX → (∀ x ∈ A, ∀ y ∈ B, x.2.2 ≠ y.2.2) → (mrgP A B).Pairwise ltX
  | _, [], B, _, _, hB, _ => by rw [mrgP_nil]; exact hB
  | _, x :: A, [], _, hA, _, _ => by rw [mrgP_nil2]; exact hA
  | 0, _ :: _, _ :: _, h, _, _, _ => by simp at h
  | n + 1, x :: A, y :: B, h, hA, hB, hd => by
    have hA' := List.pairwise_cons.1 hA
    have hB' := List.pairwise_cons.1 hB
    rw [mrgP_cons]
    split
    · rename_i ho
      rw [ordX_lt] at ho
      refine List.pairwise_cons.2 ⟨fun z hz => ?_, mrgP_sorted n A (y :: B) (by simp at h ⊢; omega) hA'.2 hB (fun u hu v hv => hd u (by simp [hu]) v hv)⟩
      rcases List.mem_append.1 ((mrgP_perm _ A (y :: B) (Nat.le_refl _)).mem_iff.1 hz) with hz | hz
      · exact hA'.1 z hz
      · rcases List.mem_cons.1 hz with rfl | hz
        · exact ho
        · exact ltX_trans ho (hB'.1 z hz)
    · rename_i ho
      rw [ordX_lt] at ho
      have hyx := ltX_total ho (hd x (by simp) y (by simp))
      refine List.pairwise_cons.2 ⟨fun z hz => ?_, mrgP_sorted n (x :: A) B (by simp at h ⊢; omega) hA hB'.2 (fun u hu v hv => hd u hu v (by simp [hv]))⟩
      rcases List.mem_append.1 ((mrgP_perm _ (x :: A) B (Nat.le_refl _)).mem_iff.1 hz) with hz | hz
      · rcases List.mem_cons.1 hz with rfl | hz
        · exact hyx
        · exact ltX_trans hyx (hA'.1 z hz)
      · exact hB'.1 z hz

theorem right_sorted {l : List Pt} (h : rightF l = true) : l.Pairwise ltX := by
  unfold rightF at h
  rw [Bool.and_eq_true] at h
  refine (chainOK_pairwise h.1).imp fun {p q} hs => ?_
  unfold stR at hs; unfold ltX; omega
theorem right_sky {l : List Pt} (h : rightF l = true) : IsSky l l := by
  unfold rightF at h
  rw [Bool.and_eq_true] at h
  exact (chainOK_sky l).1 h.1
theorem right_unl {l : List Pt} (h : rightF l = true) : (ids l).Nodup := by
  unfold rightF at h
  rw [Bool.and_eq_true] at h
  exact (unl_iff l).1 h.2
theorem right_of_sky {l : List Pt} (h : IsSky l l) (hu : (ids l).Nodup) : rightF l = true := by
  unfold rightF
  rw [Bool.and_eq_true]
  exact ⟨(chainOK_sky l).2 h, (unl_iff l).2 hu⟩

/-- the merged list, scanned, is the skyline of both -/
theorem merge_sky {A B : List Pt} (hA : rightF A = true) (hB : rightF B = true) (hu : (ids (A ++ B)).Nodup) : scanF (mrgP A B) = skyOf (A ++ B) := by
  have hd : ∀ x ∈ A, ∀ y ∈ B, x.2.2 ≠ y.2.2 := by
    intro x hx y hy
    unfold ids at hu
    rw [List.map_append, List.nodup_append] at hu
    exact hu.2.2 _ (List.mem_map_of_mem hx) _ (List.mem_map_of_mem hy)
  have hs := mrgP_sorted _ A B (Nat.le_refl _) (right_sorted hA) (right_sorted hB) hd
  have e : mrgP A B = srtX (A ++ B) := srtX_eq hu hs fun p => (mrgP_perm _ A B (Nat.le_refl _)).mem_iff
  rw [e]
  exact scanF_sky _ (srtX_sorted hu)

end Go.Proofs.Ytpebefcmloablaa
