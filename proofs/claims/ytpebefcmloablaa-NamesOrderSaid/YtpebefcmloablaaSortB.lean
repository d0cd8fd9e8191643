/- Rows that the call owns, under the words of the sort. No function of the program is walked here. -/
import Derived.Test.YtpebefcmloablaaOwn
import Derived.Sort.Grow
import Derived.Lib.Hide
import Derived.Lib.SlicesCompact
namespace Go.Proofs.Ytpebefcmloablaa
open Go.RowKit

/-- Cells that stand one behind the other, none of them frozen: what the shelf's sort asks of a row, out of a row that the call owns. -/
theorem holds_of_block {α : Type} [Inhabited α] {enc : α → Value} {w : World} {g : Nat} {cur : Array Value} {e : TypeId} {l : List α} (hh : w.heap[g]? = some (.cells cur e (0, 0))) (ht : cur.toList.take l.length = l.map enc) :
    Sort.Holds enc w g 0 l.toArray := by
  intro j hj
  have hj' : j < l.length := by simpa using hj
  refine ⟨?_, ?_⟩
  · unfold World.cell?
    simp only [hh, Nat.zero_add]
    have h1 : (cur.toList.take l.length)[j]? = some (enc l[j]) := by rw [ht]; simp [hj']
    rw [List.getElem?_take] at h1
    simp only [hj', if_true] at h1
    simpa [hj'] using h1
  · unfold World.frozen?
    simp [hh]

/-- A row of the call's own, written anew by the shelf's putRow (its first cells), then blocks behind: it is owned still. -/
theorem owns_putRow {α : Type} [Inhabited α] {enc : α → Value} {w : World} {base g cap : Nat} {cur : Array Value} {e : TypeId} {l l' : List α} (hg : base ≤ g) (hh : w.heap[g]? = some (.cells cur e (0, 0))) (hc : l.length ≤ cap) (hm : cap ≤ maxLen) (hs : cur.size = cap)
    (hl : l'.length = l.length) (q : Nat) (os : Array Obj) :
    ∃ cur', (Sort.grow (Sort.putRow enc (Sort.ahead w q) g 0 l'.toArray) os).heap[g]? = some (.cells cur' e (0, 0)) ∧ cur'.size = cap ∧ cur'.toList.take l'.length = l'.map enc ∧
      (Sort.grow (Sort.putRow enc (Sort.ahead w q) g 0 l'.toArray) os).ownsRow base e 1 (.slice (some ⟨g, 0, none⟩) l'.length cap) l'.length (l'.map enc) := by
  have key : (Sort.grow (Sort.putRow enc (Sort.ahead w q) g 0 l'.toArray) os).heap[g]? = some (.cells (Sort.putCells enc 0 l'.toArray cur) e (0, 0)) := by
    have hlt : g < w.heap.size := (Array.getElem?_eq_some_iff.1 hh).1
    show ((w.heap.modify g (Sort.onCells (Sort.putCells enc 0 l'.toArray))) ++ os)[g]? = _
    rw [Array.getElem?_append_left (by simpa using hlt), Array.getElem?_modify, if_pos rfl, hh]
    rfl
  have hsz : (Sort.putCells enc 0 l'.toArray cur).size = cap := by simp [Sort.putCells, hs]
  have htk : (Sort.putCells enc 0 l'.toArray cur).toList.take l'.length = l'.map enc := by
    apply List.ext_getElem?
    intro j
    rw [List.getElem?_take]
    by_cases hj : j < l'.length
    · rw [if_pos hj]
      have hjc : j < cur.size := by omega
      simp [Sort.putCells, hj, hjc]
    · rw [if_neg hj]
      exact (List.getElem?_eq_none (by simp; omega)).symm
  refine ⟨_, key, hsz, htk, by simp, .inr ⟨g, cap, _, rfl, hg, key, by omega, hm, by omega, ?_⟩⟩
  rw [Nat.mul_one]
  exact htk


/-- what is squeezed: each number once, rising -/
def sqz (l : List Int) : List Int := Lib.compactUpTo (l.mergeSort fun x y => decide (x ≤ y)).toArray (l.mergeSort fun x y => decide (x ≤ y)).toArray.size

theorem grow_below {α : Type} [Inhabited α] (enc : α → Value) (B : Nat) (w : World) (q : Nat) (g : Nat) (d : Array α) (os : Array Obj) (hg : B ≤ g) (hB : B ≤ w.heap.size) : Below B w (Sort.grow (Sort.putRow enc (Sort.ahead w q) g 0 d) os) := by
  refine ⟨rfl, rfl, rfl, ?_, ?_⟩
  · show w.heap.size ≤ ((w.heap.modify g _) ++ os).size
    simp
  · intro k hk
    show ((w.heap.modify g _) ++ os)[k]? = _
    rw [Array.getElem?_append_left (by simp; omega), Array.getElem?_modify, if_neg (by omega)]

/-- a slice that is cut shorter owns what is left -/
theorem owns_prefix {α : Type} {enc : α → Value} {w : World} {base g cap : Nat} {cur : Array Value} {e : TypeId} {p z : List α} (hg : base ≤ g) (hh : w.heap[g]? = some (.cells cur e (0, 0))) (ht : cur.toList.take (p ++ z).length = (p ++ z).map enc)
    (hc : (p ++ z).length ≤ cap) (hm : cap ≤ maxLen) (hs : cur.size = cap) : w.ownsRow base e 1 (.slice (some ⟨g, 0, none⟩) p.length cap) p.length (p.map enc) := by
  refine ⟨by simp, .inr ⟨g, cap, cur, rfl, hg, hh, ?_, hm, by omega, ?_⟩⟩
  · simp at hc; omega
  · rw [Nat.mul_one]
    have := congrArg (List.take p.length) ht
    rw [List.take_take] at this
    simpa using this

end Go.Proofs.Ytpebefcmloablaa
