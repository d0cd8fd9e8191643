/- The plain law of Lows: what the queue holds, beside nodes that wait; one point more is told. No function of the program is walked here. -/
import Derived.Test.YtggfdlanobndjaaGreatLwF
import Derived.Test.YtggfdlanobndjaaGreatLwD
import Derived.Test.YtggfdlanobndjaaGreatLwL
namespace Go.Proofs.YtggfdlanobndjaaGreat
open Go Go.RowKit
set_option linter.unusedVariables false
set_option linter.unusedSimpArgs false

/-- the queue f of n nodes and the nodes E that wait hold what is left -/
structure LQ (R : List Pt) (YS : List Nat) (f : Qf) (n : Nat) (E rem : List Nat) : Prop where
  ho : HO (lbQ R (nds R.length) YS) f n
  qi : QI (nds R.length) YS (qrow f n ++ some_ (nds R.length) YS E) rem
  qn : QNod R YS (qrow f n)
  en : ∀ k ∈ E, k < (nds R.length).length

section
variable {R : List Pt} {gone : List Bool} {YS : List Nat} {f : Qf} {n k : Nat} {E rem : List Nat}
theorem some_non (N : List Nd) (YS ks : List Nat) : ∀ k ∈ some_ N YS ks, bst N YS k ≠ none := fun k hk h => by
  have := (List.mem_filter.1 hk).2
  rw [h] at this
  simp at this
theorem some_none {N : List Nd} (h : bst N YS k = none) : some_ N YS (k :: E) = some_ N YS E := by unfold some_; rw [List.filter_cons, h]; rfl
theorem some_some {N : List Nd} (h : bst N YS k ≠ none) : some_ N YS (k :: E) = k :: some_ N YS E := by
  unfold some_
  rw [List.filter_cons]
  cases e : bst N YS k with
  | none => exact absurd e h
  | some i => rfl
theorem LQ.skip (h : LQ R YS f n (k :: E) rem) (hk : bst (nds R.length) YS k = none) : LQ R YS f n E rem := by
  have h1 := h.qi
  rw [some_none hk] at h1
  exact ⟨h.ho, h1, h.qn, fun k hk => h.en k (List.mem_cons_of_mem _ hk)⟩
theorem LQ.push (h : LQ R YS f n (k :: E) rem) (hk : bst (nds R.length) YS k ≠ none) : LQ R YS (upF (lbQ R (nds R.length) YS) (addF f n k) n) (n + 1) E rem := by
  obtain ⟨a1, a2⟩ := push_spec lbQ_order (x := k) h.ho
  have h1 := h.qi
  rw [some_some hk] at h1
  refine ⟨a1, h1.perm ?_, fun x hx => ?_, fun k hk => h.en k (List.mem_cons_of_mem _ hk)⟩
  · exact (a2.append_right _).trans (List.perm_middle.symm)
  · rcases List.mem_cons.1 (a2.mem_iff.1 hx) with rfl | hx
    · exact ⟨h.en x List.mem_cons_self, hk⟩
    · exact h.qn x hx
theorem qflat_len {N : List Nd} : ∀ (q : List Nat), (∀ k ∈ q, bst N YS k ≠ none) → q.length ≤ (q.flatMap (lk N YS)).length
  | [], _ => by simp
  | k :: q, h => by
    have ih := qflat_len q fun k hk => h k (List.mem_cons_of_mem _ hk)
    have h1 := h k List.mem_cons_self
    have h2 : 0 < (lk N YS k).length := List.length_pos_iff.2 fun e => h1 (bst_none.2 e)
    rw [List.flatMap_cons, List.length_append, List.length_cons]
    omega
theorem LQ.few (h : LQ R YS f n E rem) : n ≤ rem.length := by
  have h1 := qflat_len _ h.qi.non
  rw [h.qi.per.length_eq, List.length_append, qrow_len] at h1
  omega
theorem LQ.start {ks : List Nat} (hp : (ks.flatMap (lk (nds R.length) YS)).Perm rem) (hk : ∀ k ∈ ks, k < (nds R.length).length) (f : Qf) : LQ R YS f 0 ks rem :=
  ⟨fun j j0 jn => by omega, ⟨by rw [show qrow f 0 = [] from rfl, List.nil_append, some_flat]; exact hp, fun k hk => some_non _ _ _ k (by simpa [qrow] using hk)⟩, fun x hx => absurd hx (by simp [qrow]), hk⟩
theorem LQ.done (h : LQ R YS f 0 [] rem) : rem = [] := QI.empty (N := nds R.length) (YS := YS) (by simpa [qrow, some_] using h.qi)
theorem fars_lt {N : List Nd} : ∀ (t : FT) (s x : Nat), FT.At N t s → ∀ k ∈ fars t s x, k < N.length
  | .leaf _, _, _, _, k, hk => absurd hk List.not_mem_nil
  | .node l r, s, x, ha, k, hk => by
    simp only [fars] at hk
    split at hk
    · rcases List.mem_cons.1 hk with rfl | hk
      · exact ha.right.lt
      · exact fars_lt l s x ha.left k hk
    · rcases List.mem_cons.1 hk with rfl | hk
      · exact ha.left.lt
      · exact fars_lt r _ x ha.right k hk
/-- the next one -/
theorem LQ.pop (hW : CscWF R gone YS) (hs : rem.Pairwise (ltI R)) (h : LQ R YS f (n + 1) [] rem) :
    ∃ i rem', rem = i :: rem' ∧ bst (nds R.length) YS (f 0) = some i ∧ f 0 < (nds R.length).length ∧
      ∀ t s, FT.At (nds R.length) t s → t.root s = f 0 → t.lo ≤ i ∧ i < t.hi ∧ LQ R YS (dnF (lbQ R (nds R.length) YS) (swp f 0 n) 0 n) n (fars t s i) rem' := by
  have hqi : QI (nds R.length) YS (qrow f (n + 1)) rem := by simpa [some_] using h.qi
  have h0 : f 0 ∈ qrow f (n + 1) := qrow_mem.2 ⟨0, by omega, rfl⟩
  have hb0 := h.qn _ h0
  have hne : rem ≠ [] := fun e => by
    have := h.few
    rw [e] at this
    simp at this
  obtain ⟨i, rem', rfl⟩ := List.exists_cons_of_ne_nil hne
  have hbi := hqi.first hW hs h0 (fun k hk => by
    obtain ⟨j, hj, rfl⟩ := qrow_mem.1 hk
    exact h.ho.least lbQ_order j hj)
  refine ⟨i, rem', rfl, hbi, hb0.1, fun t s ha hr => ?_⟩
  obtain ⟨hwf, hhi⟩ := at_wf ha
  have hm := bst_min (N := nds R.length) hW (f 0)
  rw [hbi] at hm
  have hil : i ∈ nl YS t := by have := hm.1; rwa [← hr, lk_at ha] at this
  have hsp : t.lo ≤ i ∧ i < t.hi := by simpa using (List.mem_filter.1 hil).2
  refine ⟨hsp.1, hsp.2, ?_⟩
  obtain ⟨a1, a2, a3⟩ := pop_spec lbQ_order h.ho
  generalize dnF (lbQ R (nds R.length) YS) (swp f 0 n) 0 n = g at *
  have hfp := fars_perm (N := nds R.length) hW.nodup t s i ha hwf hil
  have hqp := (a2.flatMap_right (lk (nds R.length) YS)).trans hqi.per
  rw [List.flatMap_cons, ← hr, lk_at ha] at hqp
  have h5 : (i :: ((fars t s i).flatMap (lk (nds R.length) YS) ++ (qrow g n).flatMap (lk (nds R.length) YS))).Perm (i :: rem') := (hfp.append_right _).trans hqp
  have h6 := List.Perm.cons_inv h5
  refine ⟨a1, ⟨?_, fun k hk => ?_⟩, fun x hx => h.qn x (a2.mem_iff.1 (List.mem_cons_of_mem _ hx)), fars_lt t s i ha⟩
  · rw [List.flatMap_append, some_flat]
    exact List.perm_append_comm.trans h6
  · rcases List.mem_append.1 hk with hk | hk
    · exact (h.qn k (a2.mem_iff.1 (List.mem_cons_of_mem _ hk))).2
    · exact some_non _ _ _ k hk
end

namespace FT
theorem subs_ht : ∀ (t : FT) (s : Nat), ∀ p ∈ t.subs s, p.1.ht ≤ t.ht
  | leaf a, s, p, hp => by
    simp only [subs, List.mem_singleton] at hp
    subst hp
    exact Nat.le_refl _
  | node l r, s, p, hp => by
    simp only [subs, List.mem_append, List.mem_singleton] at hp
    rcases hp with (hp | hp) | hp
    · have := subs_ht l s p hp
      simp only [ht]
      omega
    · have := subs_ht r _ p hp
      simp only [ht]
      omega
    · subst hp
      exact Nat.le_refl _
end FT
theorem at_ht {n : Nat} {t : FT} {s : Nat} (ha : FT.At (nds n) t s) : t.ht ≤ (mkT 0 n).ht := FT.subs_ht (mkT 0 n) 0 _ (FT.at_mem (nds_eq (nds_pos ha) ▸ ha))
/-- the living places of a part, by Y -/
def rngX (R : List Pt) (YS : List Nat) (x1 x2 : Int) : List Nat := if R.length = 0 ∨ x2 < x1 then [] else rng YS (hfr R x1) (hto R x2)
section
variable {R : List Pt} {gone : List Bool} {YS : List Nat}
theorem canL_rng (hW : CscWF R gone YS) (x1 x2 : Int) : ((canL R x1 x2).1.flatMap (lk (nds R.length) YS)).Perm (rngX R YS x1 x2) := by
  unfold canL rngX
  by_cases h0 : R.length = 0 ∨ x2 < x1
  · rw [if_pos h0, if_pos h0]; exact List.Perm.refl _
  · rw [if_neg h0, if_neg h0]
    by_cases h1 : hfr R x1 < hto R x2
    · rw [if_pos h1]
      exact canon_rng hW (by omega) _ _
    · rw [if_neg h1]
      have : rng YS (hfr R x1) (hto R x2) = [] := List.filter_eq_nil_iff.2 fun i _ => by simp; omega
      rw [this]
      exact List.Perm.refl _
theorem rngX_srt (hW : CscWF R gone YS) (x1 x2 : Int) : (rngX R YS x1 x2).Pairwise (ltI R) := by
  unfold rngX
  split
  · exact List.Pairwise.nil
  · exact rng_srt hW _ _
theorem rngX_lt (hW : CscWF R gone YS) {x1 x2 : Int} {i : Nat} (h : i ∈ rngX R YS x1 x2) : i < R.length := by
  unfold rngX at h
  split at h
  · exact absurd h List.not_mem_nil
  · exact hW.lt (List.mem_filter.1 h).1
theorem rngX_len (hW : CscWF R gone YS) (x1 x2 : Int) : (rngX R YS x1 x2).length ≤ R.length := by
  have h1 := hW.lenY
  unfold rngX
  split
  · exact Nat.zero_le _
  · exact Nat.le_trans (List.length_filter_le _ _) h1
theorem rngX_pts {l : List Pt} (hW : CscWF R gone YS) (hl : Lives R YS l) (x1 x2 : Int) : (rngX R YS x1 x2).map (ptAt R) = lws l x1 x2 := by
  unfold rngX
  split
  · rename_i h0
    rcases h0 with h0 | h0
    · have h1 := hW.lenY
      have h2 := hl.len hW
      have h3 := lws_len l x1 x2
      exact (List.eq_nil_of_length_eq_zero (by omega)).symm
    · exact (lws_none l h0).symm
  · exact rng_pts hW hl x1 x2
end
end Go.Proofs.YtggfdlanobndjaaGreat
