/- Package rank: Log, Squeeze: what they answer. -/
import Derived.Test.YtlhmipjbpbbcbaaRankP
import Derived.Test.YtlhmipjbpbbcbaaOwn
import Derived.Test.YtlhmipjbpbbcbaaShelf
import Derived.WalkSpells
namespace Go.Proofs.Ytlhmipjbpbbcbaa
open Go.RowKit

def rkLog (n : Int) : Nat := if n < 2 then 0 else Lib.bitLen (n - 1).toNat

set_option maxHeartbeats 400000 in
theorem rLog (n : Int) (w : World) (h1 : n ≤ 9223372036854775807) :
    Calls Try.prog 24 #[.int .i64 n] w fun e w' => e = .returned (.int .i64 (rkLog n)) ∧ Below w.heap.size w w' := by
  unfold rkLog
  by_cases h : n < 2
  · rw [if_pos h]
    go_enter Try.func24, Try.ntmps24
    go_wp2
    go_ret
    exact ⟨rfl, Below.refl _ _⟩
  · rw [if_neg h]
    have hc := Try.bits_Len (n - 1) w (by omega) (by omega)
    generalize Lib.bitLen (n - 1).toNat = r at *
    replace hc := Lib.hid hc
    go_enter Try.func24, Try.ntmps24
    go_wp2_with (go_at_call 47; refine hc.out.mono ?_; rintro e w' ⟨rfl, rfl⟩)
    go_ret
    exact ⟨rfl, Below.refl _ _⟩

/-- Cells that stand one behind the other, none of them frozen: what the shelf's sort asks of a row, out of a row that the call owns. -/
theorem holds_of_block {α : Type} [Inhabited α] {enc : α → Value} {w : World} {g : Nat} {cur : Array Value} {e : TypeId} {l : List α} (hh : w.heap[g]? = some (.cells cur e (0, 0))) (ht : cur.toList.take l.length = l.map enc) :
    Sort.Holds enc w g 0 l.toArray := by
  intro j hj
  have hj' : j < l.length := by simpa using hj
  refine ⟨?_, ?_⟩
  · unfold World.cell?
    simp only [hh, Nat.zero_add]
    have h1 : (cur.toList.take l.length)[j]? = some (enc l[j]) := by rw [ht]; simp [hj']
    rw [List.getElem?_take] at h1
    simp only [hj', if_true] at h1
    simpa [hj'] using h1
  · unfold World.frozen?
    simp [hh]

/-- A row of the call's own, written anew by the shelf's putRow (its first cells), then blocks behind: it is owned still. -/
theorem owns_putRow {α : Type} [Inhabited α] {enc : α → Value} {w : World} {base g cap : Nat} {cur : Array Value} {e : TypeId} {l l' : List α} (hg : base ≤ g) (hh : w.heap[g]? = some (.cells cur e (0, 0))) (hc : l.length ≤ cap) (hm : cap ≤ maxLen) (hs : cur.size = cap)
    (hl : l'.length = l.length) (q : Nat) (os : Array Obj) :
    ∃ cur', (Sort.grow (Sort.putRow enc (Sort.ahead w q) g 0 l'.toArray) os).heap[g]? = some (.cells cur' e (0, 0)) ∧ cur'.size = cap ∧ cur'.toList.take l'.length = l'.map enc ∧
      (Sort.grow (Sort.putRow enc (Sort.ahead w q) g 0 l'.toArray) os).ownsRow base e 1 (.slice (some ⟨g, 0, none⟩) l'.length cap) l'.length (l'.map enc) := by
  have key : (Sort.grow (Sort.putRow enc (Sort.ahead w q) g 0 l'.toArray) os).heap[g]? = some (.cells (Sort.putCells enc 0 l'.toArray cur) e (0, 0)) := by
    have hlt : g < w.heap.size := (Array.getElem?_eq_some_iff.1 hh).1
    show ((w.heap.modify g (Sort.onCells (Sort.putCells enc 0 l'.toArray))) ++ os)[g]? = _
    rw [Array.getElem?_append_left (by simpa using hlt), Array.getElem?_modify, if_pos rfl, hh]
    rfl
  have hsz : (Sort.putCells enc 0 l'.toArray cur).size = cap := by simp [Sort.putCells, hs]
  have htk : (Sort.putCells enc 0 l'.toArray cur).toList.take l'.length = l'.map enc := by
    apply List.ext_getElem?
    intro j
    rw [List.getElem?_take]
    by_cases hj : j < l'.length
    · rw [if_pos hj]
      have hjc : j < cur.size := by omega
      simp [Sort.putCells, hj, hjc]
    · rw [if_neg hj]
      exact (List.getElem?_eq_none (by simp; omega)).symm
  refine ⟨_, key, hsz, htk, by simp, .inr ⟨g, cap, _, rfl, hg, key, by omega, hm, by omega, ?_⟩⟩
  rw [Nat.mul_one]
  exact htk


/-- what is squeezed: each number once, rising -/
def sqz (l : List Int) : List Int := Lib.compactUpTo (l.mergeSort fun x y => decide (x ≤ y)).toArray (l.mergeSort fun x y => decide (x ≤ y)).toArray.size

theorem grow_below {α : Type} [Inhabited α] (enc : α → Value) (B : Nat) (w : World) (q : Nat) (g : Nat) (d : Array α) (os : Array Obj) (hg : B ≤ g) (hB : B ≤ w.heap.size) : Below B w (Sort.grow (Sort.putRow enc (Sort.ahead w q) g 0 d) os) := by
  refine ⟨rfl, rfl, rfl, ?_, ?_⟩
  · show w.heap.size ≤ ((w.heap.modify g _) ++ os).size
    simp
  · intro k hk
    show ((w.heap.modify g _) ++ os)[k]? = _
    rw [Array.getElem?_append_left (by simp; omega), Array.getElem?_modify, if_neg (by omega)]

/-- a slice that is cut shorter owns what is left -/
theorem owns_prefix {α : Type} {enc : α → Value} {w : World} {base g cap : Nat} {cur : Array Value} {e : TypeId} {p z : List α} (hg : base ≤ g) (hh : w.heap[g]? = some (.cells cur e (0, 0))) (ht : cur.toList.take (p ++ z).length = (p ++ z).map enc)
    (hc : (p ++ z).length ≤ cap) (hm : cap ≤ maxLen) (hs : cur.size = cap) : w.ownsRow base e 1 (.slice (some ⟨g, 0, none⟩) p.length cap) p.length (p.map enc) := by
  refine ⟨by simp, .inr ⟨g, cap, cur, rfl, hg, hh, ?_, hm, by omega, ?_⟩⟩
  · simp at hc; omega
  · rw [Nat.mul_one]
    have := congrArg (List.take p.length) ht
    rw [List.take_take] at this
    simpa using this

set_option maxHeartbeats 400000 in
theorem rClone (a : Option Addr) (l : List Int) (c : Nat) (w : World) (h : Rd (.int .i64) w a l) (hl : l.length ≤ 1000000) :
    Calls Try.prog 44 #[.slice a l.length c] w fun e w' => ∃ v, e = .returned v ∧ w'.ownsRow w.heap.size 2 1 v l.length (l.map (.int .i64)) ∧ Below w.heap.size w w' := by
  have q22 : ∀ (w : World) (a : Option Addr) (n c n' c' : Nat), (binOp .eql 22 (.slice a n c) (.slice none n' c')).run Try.prog w = .ok (.bool a.isNone) w := fun w a n c n' c' => Lib.run_eql_slice_nil w _ _ a n c n' c' Try.underlying22
  cases a with
  | none =>
    have e0 : l = [] := by
      rcases h with h | ⟨b, off, h, _⟩
      · exact h
      · cases h
    subst e0
    go_enter Try.func44, Try.ntmps44
    go_wp2
    go_ret
    exact ⟨_, rfl, World.ownsRow_nil _ _ _ _, Below.refl _ _⟩
  | some ad =>
    have hown := World.ownsRow_made (e := 2) (size := 1) w #[] 0 (Nat.le_refl _) (Nat.zero_le _) rfl
    have h' : Rd (.int .i64) (w.alloc (.cells #[] 2)) (some ad) l := h.below ((Below.refl _ _).alloc (Nat.le_refl _) _)
    clear h
    go_enter Try.func44, Try.ntmps44
    go_wp2_with (at_builtin; refine wp_appendL elInt64 (fun _ => rfl) w.heap.size hown h' rfl _ _ rfl rfl c rfl (by unfold maxLen; omega) (by omega) (by simp) ?_; intro v' w' hown' hg)
    go_ret
    rw [Nat.zero_add, List.nil_append] at hown'
    exact ⟨_, rfl, hown', below_grown ((Below.refl _ _).alloc (Nat.le_refl _) _) hown hg (by simp) (Nat.le_refl _)⟩

set_option maxHeartbeats 400000 in
theorem rSqueeze (a : Option Addr) (l : List Int) (c : Nat) (w : World) (h : Rd (.int .i64) w a l) (hl : l.length ≤ 1000000) :
    Calls Try.prog 22 #[.slice a l.length c] w fun e w' => ∃ v, e = .returned v ∧ w'.ownsRow w.heap.size 2 1 v (sqz l).length ((sqz l).map (.int .i64)) ∧ Below w.heap.size w w' := by
  have c1 := Lib.hid (rClone a l c w h hl)
  clear h
  generalize hsq : sqz l = sq
  have HSQ := Lib.hid hsq
  clear hsq
  go_enter Try.func22, Try.ntmps22
  go_wp2_with fail
  refine c1.out.mono ?_
  rintro e w1 ⟨v1, rfl, hown, hb1⟩
  obtain ⟨_, hown⟩ := hown
  rcases hown with ⟨rfl, hl0⟩ | ⟨g, cap, cur, rfl, hg, hh, hcc, hm, hs, htk⟩
  · obtain rfl : l = [] := List.eq_nil_of_length_eq_zero hl0
    have e0 : sq = [] := by rw [← HSQ.out]; simp [sqz, Lib.compactUpTo]
    subst e0
    have c2 := Lib.hid (Try.slices_Sort_int_none none 0 w1)
    clear c1
    go_wp2_with (first | (go_at_call 45; refine c2.out.mono ?_; rintro e w' ⟨rfl, rfl⟩) | go_in)
    go_ret
    exact ⟨_, rfl, World.ownsRow_nil _ _ _ _, hb1⟩
  · rw [Nat.mul_one] at hs htk
    have hlt := (Array.getElem?_eq_some_iff.1 hh).1
    have c2 := Lib.hid (Try.slices_Sort_int g 0 cap l w1 (holds_of_block hh htk) hlt (by omega))
    have hm' : Hid (cap ≤ maxLen) := hm
    have hh' := Lib.hid hh
    have htk' := Lib.hid htk
    have hs' := Lib.hid hs
    clear hm hh htk hs c1
    go_wp2_with fail
    refine c2.out.mono ?_
    rintro e w2 ⟨rfl, q, os, rfl⟩
    obtain ⟨cur2, hh2, hs2, htk2, hown2⟩ := owns_putRow (l' := l.mergeSort fun x y => decide (x ≤ y)) hg hh'.out hcc hm'.out hs'.out (List.length_mergeSort l) q os
    have hbel2 := grow_below (Value.int .i64) w.heap.size w1 q g (l.mergeSort fun x y => decide (x ≤ y)).toArray os hg hb1.size
    generalize Sort.grow (Sort.putRow (Value.int .i64) (Sort.ahead w1 q) g 0 (l.mergeSort fun x y => decide (x ≤ y)).toArray) os = w2 at *
    have hlen : (l.mergeSort fun x y => decide (x ≤ y)).length = l.length := List.length_mergeSort l
    have c3 := Try.slices_Compact_f46 (Value.int .i64) (fun _ => rfl) (EqlAt.intD _ _ .i64) (NeqAt.intD _ _ .i64) 0 Try.zeroValue2 g 0 cap (l.mergeSort fun x y => decide (x ≤ y)).toArray w2 (holds_of_block hh2 htk2) (by simp; omega) (by simp; omega)
    rw [show (l.mergeSort fun x y => decide (x ≤ y)).toArray.size = l.length by simp] at c3
    replace c3 := Lib.hid c3
    clear c2 hown2
    have hh2' := Lib.hid hh2
    have htk2' := Lib.hid htk2
    have hs2' := Lib.hid hs2
    have hlen' := Lib.hid hlen
    clear hh2 htk2 hs2 hlen
    go_wp2_with fail
    refine c3.out.mono ?_
    rintro e w3 ⟨rfl, q3, rfl⟩
    clear c3
    go_wp2_with fail
    go_ret
    have hcl : (Lib.compactUpTo (l.mergeSort fun x y => decide (x ≤ y)).toArray l.length).length ≤ l.length := by
      unfold Lib.compactUpTo
      rw [List.length_map]
      exact Nat.le_trans (List.length_filter_le _ _) (by simp)
    have es : sq = Lib.compactUpTo (l.mergeSort fun x y => decide (x ≤ y)).toArray l.length := by rw [← HSQ.out]; unfold sqz; rw [show (l.mergeSort fun x y => decide (x ≤ y)).toArray.size = l.length by simp]
    clear HSQ
    subst es
    generalize Lib.compactUpTo (l.mergeSort fun x y => decide (x ≤ y)).toArray l.length = cl at *
    obtain ⟨cur3, hh3, hs3, htk3, hown3⟩ := owns_putRow (l := l) (enc := Value.int .i64) (l' := cl ++ List.replicate (l.length - cl.length) 0) hg hh2'.out hcc hm'.out hs2'.out (by simp; omega) q3 #[]
    have hbel3 := grow_below (Value.int .i64) w.heap.size w2 q3 g (cl ++ List.replicate (l.length - cl.length) 0).toArray #[] hg (Nat.le_trans hb1.size hbel2.size)
    rw [Sort.grow_empty] at hbel3 hh3 hown3
    exact ⟨_, rfl, owns_prefix hg hh3 htk3 (by have := hcc; simp; omega) hm'.out hs3, (hb1.trans hbel2).trans hbel3⟩
end Go.Proofs.Ytlhmipjbpbbcbaa
