/- What the other texts of this seat lean on: slices that are read, as lists. No function of the program is walked here. -/
import Derived.Test.YtpebefcmloablaaProg
import Derived.WalkKit
import Derived.Deep.LoopGhost
import Derived.Deep.QuietTactic
import Derived.BigQuiet
import Derived.Lib.Hide
import Derived.Sort.Walk0
import Derived.Shelf.Abstract
namespace Go.Proofs.Ytpebefcmloablaa
open Go.RowKit

theorem ret_int {k : IntKind} {a b : Int} (h : a = b) : Ending.returned (.int k a) = .returned (.int k b) := by rw [h]
theorem ret_bool {a b : Bool} (h : a = b) : Ending.returned (.bool a) = .returned (.bool b) := by rw [h]

/-- A slice's address that reads as the list l in world w, an element a cell. -/
def Rd {α : Type} (enc : α → Value) (w : World) (a : Option Addr) (l : List α) : Prop :=
  l = [] ∨ ∃ b off, a = some ⟨b, off, none⟩ ∧ b < w.heap.size ∧ ∀ i (h : i < l.length), w.cell? ⟨b, off + i, none⟩ = some (enc l[i])

theorem Rd.below {α : Type} {enc : α → Value} {w w' : World} {a : Option Addr} {l : List α} {B : Nat} (h : Rd enc w a l) (hb : Below B w w') (hB : w.heap.size ≤ B := by first | exact Nat.le_refl _ | (simp; done) | (simp; omega)) : Rd enc w' a l := by
  rcases h with h | ⟨b, off, rfl, hlt, hc⟩
  · exact .inl h
  · exact .inr ⟨b, off, rfl, Nat.lt_of_lt_of_le hlt hb.size, fun i hi => by rw [hb.cell (p := ⟨b, off + i, none⟩) (Nat.lt_of_lt_of_le hlt hB)]; exact hc i hi⟩

theorem Rd.nil {α : Type} {enc : α → Value} {w : World} {a : Option Addr} : Rd enc w a ([] : List α) := .inl rfl

theorem Rd.get {α : Type} {enc : α → Value} {w : World} {a : Option Addr} {l : List α} (h : Rd enc w a l) (hl : 0 < l.length) :
    ∃ b off, a = some ⟨b, off, none⟩ ∧ b < w.heap.size ∧ ∀ i (h : i < l.length), w.cell? ⟨b, off + i, none⟩ = some (enc l[i]) := by
  rcases h with rfl | h
  · simp at hl
  · exact h

theorem Rd.take {α : Type} {enc : α → Value} {w : World} {a : Option Addr} {l : List α} (h : Rd enc w a l) (k : Nat) : Rd enc w a (l.take k) := by
  rcases h with rfl | ⟨b, off, rfl, hb, hc⟩
  · exact .inl (by simp)
  · exact .inr ⟨b, off, rfl, hb, fun i hi => by rw [List.getElem_take]; exact hc i (by simp at hi; omega)⟩

theorem Rd.drop {α : Type} {enc : α → Value} {w : World} {b off : Nat} {l : List α} (h : Rd enc w (some ⟨b, off, none⟩) l) (k : Nat) : Rd enc w (some ⟨b, off + k, none⟩) (l.drop k) := by
  rcases h with h | ⟨b', off', h, hb, hc⟩
  · exact .inl (by rw [h]; simp)
  · cases h
    exact .inr ⟨b, off + k, rfl, hb, fun i hi => by rw [List.getElem_drop, Nat.add_assoc]; exact hc (k + i) (by simp at hi; omega)⟩

theorem Rd.cast {α : Type} {enc : α → Value} {w : World} {a : Option Addr} {l l' : List α} (h : Rd enc w a l) (e : l = l') : Rd enc w a l' := e ▸ h

/-- A literal's block reads as its list. -/
theorem Rd.lit {α : Type} {enc : α → Value} (W : World) (e : TypeId) (l : List α) (n : Nat) (hn : n = W.heap.size) : Rd enc (W.alloc (.cells (l.map enc).toArray e)) (some ⟨n, 0, none⟩) l := by
  refine .inr ⟨_, 0, rfl, by simp; omega, fun i hi => ?_⟩
  rw [World.cell?_alloc_at _ _ _ _ hn]
  simp [hi]

/-- The cells of a slice that came in, read as the list of its elements. -/
theorem Rd.of_row {k : IntKind} {w : World} {a : Option Addr} {len cap : Nat} {zs : List Int} (h : (a = none ∧ len = 0 ∧ cap = 0 ∧ zs = []) ∨ ∃ x, a = some x ∧ len ≤ cap ∧ cap ≤ maxLen ∧ zs.length = cap ∧ (∀ i, i < zs.length → w.cell? (x.add i) = some (.int k (zs.getD i 0))) ∧ ∀ n ∈ zs, (Lit.int k n).wf = true) :
    (zs.take len).length = len ∧ Rd (.int k) w a (zs.take len) ∧ ∀ n ∈ zs.take len, (Lit.int k n).wf = true := by
  rcases h with ⟨rfl, rfl, rfl, rfl⟩ | ⟨x, rfl, hl, _, hz, hc, hw⟩
  · exact ⟨rfl, .inl rfl, by simp⟩
  · refine ⟨by simp; omega, ?_, fun n hn => hw n (List.mem_of_mem_take hn)⟩
    by_cases h0 : len = 0
    · subst h0; exact .inl (by simp)
    · obtain ⟨b, off, spot⟩ := x
      have h1 := hc 0 (by omega)
      have hs : spot = none := by simpa [Addr.add] using World.cell?_spot h1
      subst hs
      refine .inr ⟨b, off, rfl, ?_, fun i hi => ?_⟩
      · exact World.block_lt_of_cell? w _ h1
      · simp at hi
        have := hc i (by omega)
        have hadd : (⟨b, off, none⟩ : Addr).add i = ⟨b, off + i, none⟩ := by unfold Addr.add; split <;> simp_all
        rw [hadd] at this
        rw [this]
        simp [show i < zs.length by omega]

theorem wf_i64 {x : Int} (h : (Lit.int .i64 x).wf = true) : -9223372036854775808 ≤ x ∧ x ≤ 9223372036854775807 := by
  simpa [Lit.wf, IntKind.min, IntKind.max, IntKind.bits, IntKind.signed] using h
theorem IsRow_len {k : IntKind} {w : World} {a : Option Addr} {len cap : Nat} {zs : List Int} (h : (a = none ∧ len = 0 ∧ cap = 0 ∧ zs = []) ∨ ∃ x, a = some x ∧ len ≤ cap ∧ cap ≤ maxLen ∧ zs.length = cap ∧ (∀ i, i < zs.length → w.cell? (x.add i) = some (.int k (zs.getD i 0))) ∧ ∀ n ∈ zs, (Lit.int k n).wf = true) : len ≤ 9223372036854775807 := by
  rcases h with ⟨_, rfl, _⟩ | ⟨x, _, h1, h2, _⟩
  · omega
  · unfold maxLen at h2; omega

/-- A row that the call owns reads as a list. -/
theorem Rd.of_owns {α : Type} {enc : α → Value} {w : World} {base : Nat} {e : TypeId} {v : Value} {n : Nat} {l : List α} (h : w.ownsRow base e 1 v n (l.map enc)) :
    ∃ a c, v = .slice a l.length c ∧ n = l.length ∧ l.length ≤ c ∧ Rd enc w a l := by
  obtain ⟨hn, h⟩ := h
  have hn' : n = l.length := by simpa using hn.symm
  subst hn'
  rcases h with ⟨rfl, h0⟩ | ⟨g, cap, cur, rfl, hg, hh, hc, hm, hs, ht⟩
  · have : l = [] := List.eq_nil_of_length_eq_zero h0
    subst this
    exact ⟨none, 0, rfl, rfl, Nat.le_refl _, .inl rfl⟩
  · refine ⟨_, cap, rfl, rfl, hc, .inr ⟨g, 0, rfl, ?_, ?_⟩⟩
    · exact (Array.getElem?_eq_some_iff.1 hh).1
    · intro i hi
      have := ht
      simp only [Nat.mul_one] at this
      unfold World.cell?
      simp only [hh]
      have h1 : (cur.toList.take l.length)[i]? = some (enc l[i]) := by rw [this]; simp [hi]
      rw [List.getElem?_take] at h1
      simp only [hi, if_true] at h1
      simpa using h1

def eInt (k : IntKind) (x : Int) : Value := .int k x

/-- where two lists are the same up to the shorter one's end -/
def sameUpto {α : Type} [DecidableEq α] : List α → List α → Bool
  | [], _ => true
  | _, [] => true
  | x :: l, y :: m => decide (x = y) && sameUpto l m

theorem eq_of_pre {α : Type} [DecidableEq α] (l m : List α) (k : Nat) (hk : l.take k = m.take k) (h : ¬ (k < l.length ∧ k < m.length)) :
    decide (l = m) = decide ((l.length : Int) = (m.length : Int)) := by
  by_cases e : l.length = m.length
  · have h1 : l = m := by
      rw [List.take_of_length_le (by omega), List.take_of_length_le (by omega)] at hk
      exact hk
    simp [h1]
  · have h1 : l ≠ m := fun h => e (by rw [h])
    simp [h1]
    omega

theorem ne_of_at {α : Type} [DecidableEq α] (l m : List α) (k : Nat) (h1 : k < l.length) (h2 : k < m.length) (h : l[k] ≠ m[k]) : decide (l = m) = false := by
  apply decide_eq_false
  intro e
  subst e
  exact h rfl

theorem take_more {α : Type} (l m : List α) (k : Nat) (hk : l.take k = m.take k) (h1 : k < l.length) (h2 : k < m.length) (h : l[k] = m[k]) : l.take (k + 1) = m.take (k + 1) := by
  rw [List.take_succ_eq_append_getElem h1, List.take_succ_eq_append_getElem h2, hk, h]

end Go.Proofs.Ytpebefcmloablaa
