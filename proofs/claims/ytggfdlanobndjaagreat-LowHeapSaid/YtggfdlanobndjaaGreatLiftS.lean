/- Arguments that are slices of structs of three numbers (three sides; parts), opened to lists. -/
import Derived.Test.YtggfdlanobndjaaGreatQ6
namespace Go.Proofs.YtggfdlanobndjaaGreat
open Go.RowKit Go.ChangeShapes Go.WideShapes Go.Deep

/-- three numbers -/
abbrev Sd := Int × Int × Int
def eSd (p : Sd) : List Value := [.int .i64 p.1, .int .i64 p.2.1, .int .i64 p.2.2]
theorem eSd_len (p : Sd) : (eSd p).length = 3 := rfl

theorem open_sides {H : Type} {enc : TypeId × Value → H} {w : World} {base : Nat} {spare : Nat → Bool} {held : Bool} {fuel : Nat} {a : Option Addr} {len cap : Nat} {x : DataW H × List MemPlace} (h : DataW.trod enc Tryz.prog w base spare held fuel 23 [.slice a len cap] = some x) :
    ∃ l : List Sd, l.length = len ∧ RdK eSd 3 w a l ∧ len ≤ cap ∧ cap ≤ maxLen ∧ ∀ x ∈ l, (Lit.int .i64 x.1).wf = true ∧ (Lit.int .i64 x.2.1).wf = true ∧ (Lit.int .i64 x.2.2).wf = true := by
  rcases open_slice_fields Tryz.underlying23 Tryz.underlying50 (by kernel_rfl) (by kernel_rfl) h with ⟨hcs, _⟩ | ⟨ad, len', cap', m, D, Pl, hcs, _, hl, hm, hmm, _, hi⟩
  · simp at hcs
    obtain ⟨rfl, rfl, rfl⟩ := hcs
    exact ⟨[], rfl, .nil, Nat.le_refl _, Nat.zero_le _, by simp⟩
  · simp at hcs
    obtain ⟨rfl, rfl, rfl⟩ := hcs
    have hlm : len ≤ m := by rw [hmm]; split <;> omega
    obtain ⟨l, hll, hp⟩ := list_of len (fun i (p : Sd) => w.cell? (ad.add (i * 3 + 0)) = some (.int .i64 p.1) ∧ w.cell? (ad.add (i * 3 + 1)) = some (.int .i64 p.2.1) ∧ w.cell? (ad.add (i * 3 + 2)) = some (.int .i64 p.2.2) ∧ (Lit.int .i64 p.1).wf = true ∧ (Lit.int .i64 p.2.1).wf = true ∧ (Lit.int .i64 p.2.2).wf = true) (fun i hil => by
      obtain ⟨ys, n, _, _, _, hf⟩ := hi i (by omega)
      obtain ⟨v0, y0, c0, _, t0⟩ := hf 0 _ rfl
      obtain ⟨q0, e0, _, g0⟩ := DataW.trod_int Tryz.underlying2 t0
      simp at e0
      subst e0
      obtain ⟨v1, y1, c1, _, t1⟩ := hf 1 _ rfl
      obtain ⟨q1, e1, _, g1⟩ := DataW.trod_int Tryz.underlying2 t1
      simp at e1
      subst e1
      obtain ⟨v2, y2, c2, _, t2⟩ := hf 2 _ rfl
      obtain ⟨q2, e2, _, g2⟩ := DataW.trod_int Tryz.underlying2 t2
      simp at e2
      subst e2
      exact ⟨⟨q0, q1, q2⟩, c0, c1, c2, g0, g1, g2⟩)
    refine ⟨l, hll, ?_, hl, hm, fun x hx => ?_⟩
    · by_cases h0 : l = []
      · exact .inl h0
      · obtain ⟨b, off, spot⟩ := ad
        have hpos : 0 < l.length := List.length_pos_iff.2 h0
        have h1 := (hp 0 hpos).1
        have hs : spot = none := by simpa [Addr.add] using World.cell?_spot h1
        subst hs
        have hadd : ∀ i, (⟨b, off, none⟩ : Addr).add i = ⟨b, off + i, none⟩ := fun i => by unfold Addr.add; split <;> simp_all
        refine .inr ⟨b, off, rfl, ?_, fun i hi j hj => ?_⟩
        · have := World.block_lt_of_cell? w _ h1
          rw [hadd] at this
          exact this
        · have h2 := hp i hi
          simp only [hadd] at h2
          rw [Nat.add_assoc]
          match j, hj with
          | 0, _ => exact h2.1
          | 1, _ => exact h2.2.1
          | 2, _ => exact h2.2.2.1
    · obtain ⟨i, hi, rfl⟩ := List.getElem_of_mem hx
      exact (hp i hi).2.2.2
theorem open_parts {H : Type} {enc : TypeId × Value → H} {w : World} {base : Nat} {spare : Nat → Bool} {held : Bool} {fuel : Nat} {a : Option Addr} {len cap : Nat} {x : DataW H × List MemPlace} (h : DataW.trod enc Tryz.prog w base spare held fuel 71 [.slice a len cap] = some x) :
    ∃ l : List Sd, l.length = len ∧ RdK eSd 3 w a l ∧ len ≤ cap ∧ cap ≤ maxLen ∧ ∀ x ∈ l, (Lit.int .i64 x.1).wf = true ∧ (Lit.int .i64 x.2.1).wf = true ∧ (Lit.int .i64 x.2.2).wf = true := by
  rcases open_slice_fields Tryz.underlying71 Tryz.underlying78 (by kernel_rfl) (by kernel_rfl) h with ⟨hcs, _⟩ | ⟨ad, len', cap', m, D, Pl, hcs, _, hl, hm, hmm, _, hi⟩
  · simp at hcs
    obtain ⟨rfl, rfl, rfl⟩ := hcs
    exact ⟨[], rfl, .nil, Nat.le_refl _, Nat.zero_le _, by simp⟩
  · simp at hcs
    obtain ⟨rfl, rfl, rfl⟩ := hcs
    have hlm : len ≤ m := by rw [hmm]; split <;> omega
    obtain ⟨l, hll, hp⟩ := list_of len (fun i (p : Sd) => w.cell? (ad.add (i * 3 + 0)) = some (.int .i64 p.1) ∧ w.cell? (ad.add (i * 3 + 1)) = some (.int .i64 p.2.1) ∧ w.cell? (ad.add (i * 3 + 2)) = some (.int .i64 p.2.2) ∧ (Lit.int .i64 p.1).wf = true ∧ (Lit.int .i64 p.2.1).wf = true ∧ (Lit.int .i64 p.2.2).wf = true) (fun i hil => by
      obtain ⟨ys, n, _, _, _, hf⟩ := hi i (by omega)
      obtain ⟨v0, y0, c0, _, t0⟩ := hf 0 _ rfl
      obtain ⟨q0, e0, _, g0⟩ := DataW.trod_int Tryz.underlying2 t0
      simp at e0
      subst e0
      obtain ⟨v1, y1, c1, _, t1⟩ := hf 1 _ rfl
      obtain ⟨q1, e1, _, g1⟩ := DataW.trod_int Tryz.underlying2 t1
      simp at e1
      subst e1
      obtain ⟨v2, y2, c2, _, t2⟩ := hf 2 _ rfl
      obtain ⟨q2, e2, _, g2⟩ := DataW.trod_int Tryz.underlying3 t2
      simp at e2
      subst e2
      exact ⟨⟨q0, q1, q2⟩, c0, c1, c2, g0, g1, g2⟩)
    refine ⟨l, hll, ?_, hl, hm, fun x hx => ?_⟩
    · by_cases h0 : l = []
      · exact .inl h0
      · obtain ⟨b, off, spot⟩ := ad
        have hpos : 0 < l.length := List.length_pos_iff.2 h0
        have h1 := (hp 0 hpos).1
        have hs : spot = none := by simpa [Addr.add] using World.cell?_spot h1
        subst hs
        have hadd : ∀ i, (⟨b, off, none⟩ : Addr).add i = ⟨b, off + i, none⟩ := fun i => by unfold Addr.add; split <;> simp_all
        refine .inr ⟨b, off, rfl, ?_, fun i hi j hj => ?_⟩
        · have := World.block_lt_of_cell? w _ h1
          rw [hadd] at this
          exact this
        · have h2 := hp i hi
          simp only [hadd] at h2
          rw [Nat.add_assoc]
          match j, hj with
          | 0, _ => exact h2.1
          | 1, _ => exact h2.2.1
          | 2, _ => exact h2.2.2.1
    · obtain ⟨i, hi, rfl⟩ := List.getElem_of_mem hx
      exact (hp i hi).2.2.2
end Go.Proofs.YtggfdlanobndjaaGreat
