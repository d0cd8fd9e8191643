/- slices.SortFunc at structs, over rows that the call owns. No function of the program is walked here. -/
import Derived.Test.YtpebefcmloablaaStr
import Derived.Laws.OwnMore
import Derived.Shelf.SlSortCmp.WholeK
import Derived.Shelf.SlSortCmp.NoneTotal
import Derived.Lib.Hide
namespace Go.Proofs.Ytpebefcmloablaa
open Go.RowKit Go.Sort Go.Shelf Go.Lib

section
variable {α : Type} [Inhabited α] {enc : α → List Value} {k : Nat}

theorem flatK_toList (hk : ∀ x, (enc x).length = k) (hk0 : 0 < k) (l : List α) : (flatK enc k l.toArray).toList = l.flatMap enc := by
  apply List.ext_getElem?
  intro t
  by_cases ht : t < l.length * k
  · have h1 : t / k < l.length := Nat.div_lt_of_lt_mul (by rw [Nat.mul_comm]; exact ht)
    have h2 : t % k < k := Nat.mod_lt _ hk0
    have h3 := flat_get hk l (t / k) h1 (t % k) h2
    rw [Nat.div_add_mod' t k] at h3
    rw [h3]
    have h4 := get_flatK enc k l.toArray t (by simpa using ht)
    have h5 : t < (flatK enc k l.toArray).size := by simpa using ht
    rw [Array.getElem?_toList, Array.getElem?_eq_getElem h5]
    rw [getElem!_pos _ t h5] at h4
    rw [h4]
    have h6 : t % k < (enc l[t / k]).length := by rw [hk]; exact h2
    rw [List.getElem?_eq_getElem h6]
    simp [h1, h6]
  · rw [List.getElem?_eq_none (by simp; omega), List.getElem?_eq_none (by rw [flat_len hk]; omega)]

theorem holdsK_of_owned (hk : ∀ x, (enc x).length = k) (hk0 : 0 < k) {w : World} {base g c n : Nat} {e : TypeId} {l : List α} (hn : l.length = n) (h : w.ownsRow base e k (.slice (some ⟨g, 0, none⟩) n c) n (l.flatMap enc)) : HoldsK enc k w g 0 l.toArray := by
  intro j hj
  have hj' : j < n * k := by rw [← hn]; simpa using hj
  have h1 := h.cellAt j hj'
  have h2 := h.frozenAt j
  rw [Nat.zero_add]
  refine ⟨?_, h2⟩
  rw [h1, ← flatK_toList hk hk0, Array.getElem?_toList, Array.getElem?_eq_getElem hj]
  rw [getElem!_pos (flatK enc k l.toArray) j hj]
  rfl

theorem owned_putRowK (hk : ∀ x, (enc x).length = k) (hk0 : 0 < k) {w : World} {base g c n : Nat} {e : TypeId} {l l' : List α} (hl : l'.length = n) (h : w.ownsRow base e k (.slice (some ⟨g, 0, none⟩) n c) n (l.flatMap enc)) (q : Nat) (os : Array Obj) :
    (Sort.grow (putRowK enc k (Sort.ahead w q) g 0 l'.toArray) os).ownsRow base e k (.slice (some ⟨g, 0, none⟩) n c) n (l'.flatMap enc) ∧ w.grownBy (Sort.grow (putRowK enc k (Sort.ahead w q) g 0 l'.toArray) os) (some g) := by
  rcases h.2 with ⟨h1, _⟩ | ⟨g', cap, cur, h1, hg, hh, hc, hm, hs, ht⟩
  · cases h1
  · injection h1 with e1 e2 e3
    injection e1 with e1
    injection e1 with e1 _ _
    subst e1 e3
    have hlt : g < w.heap.size := (Array.getElem?_eq_some_iff.1 hh).1
    have key : (Sort.grow (putRowK enc k (Sort.ahead w q) g 0 l'.toArray) os).heap[g]? = some (.cells (Sort.putCells id 0 (flatK enc k l'.toArray) cur) e (0, 0)) := by
      show ((w.heap.modify g (Sort.onCells (Sort.putCells id 0 (flatK enc k l'.toArray)))) ++ os)[g]? = _
      rw [Array.getElem?_append_left (by simpa using hlt), Array.getElem?_modify, if_pos rfl, hh]
      rfl
    have hsz : (Sort.putCells id 0 (flatK enc k l'.toArray) cur).size = c * k := by simp [Sort.putCells, hs]
    have hnk : n * k ≤ c * k := Nat.mul_le_mul_right _ hc
    have htk : (Sort.putCells id 0 (flatK enc k l'.toArray) cur).toList.take (n * k) = l'.flatMap enc := by
      rw [← flatK_toList hk hk0]
      have hfs : (flatK enc k l'.toArray).size = n * k := by simp [hl]
      generalize flatK enc k l'.toArray = F at *
      apply List.ext_getElem?
      intro j
      rw [List.getElem?_take]
      by_cases hj : j < n * k
      · rw [if_pos hj]
        have hjc : j < cur.size := by omega
        simp [Sort.putCells, hjc, hfs, hj]
      · rw [if_neg hj]
        exact (List.getElem?_eq_none (by simp; omega)).symm
    refine ⟨⟨by rw [flat_len hk, hl], .inr ⟨g, c, _, rfl, hg, key, hc, hm, hsz, htk⟩⟩, ?_⟩
    refine ⟨rfl, rfl, rfl, ?_, fun b hb hne => ?_⟩
    · show w.heap.size ≤ ((w.heap.modify g _) ++ os).size
      simp
    · show ((w.heap.modify g _) ++ os)[b]? = _
      rw [Array.getElem?_append_left (by simpa using hb), Array.getElem?_modify, if_neg (fun e => hne (by rw [e]))]

theorem perm_of_permIn {d d' : Array α} (h : PermIn 0 d.size d d') : d'.toList.Perm d.toList := by
  obtain ⟨h1, _, h3⟩ := h
  rw [show d.extract 0 d.size = d by simp, show d'.extract 0 d.size = d' by rw [← h1]; simp] at h3
  exact h3

theorem sortFunc_owned {P : Program} {ρ : Ren} (L : SlLaysF0.n6 P ρ) (hk : ∀ x, (enc x).length = k) (hk0 : 0 < k) (aE : ∀ w, (isAgg (ρ.t 24)).run P w = .ok true w) (zE : ∀ w, (Go.sizeOf (ρ.t 24)).run P w = .ok k w) (h1 : ∀ x, ∀ v ∈ enc x, v.oneCell' = true)
    (cf : α → α → Int) (hO : SWO (ltOf cf)) (f : Nat) (cb : Array Value) (eg : ∀ args w, (callFunc f args).run P w = .ok (.enter f args) w)
    (hcmp : ∀ x y W, Calls P f (#[.agg (enc x).toArray, .agg (enc y).toArray] ++ cb) W fun e w' => e = .returned (.int .i64 (cf x y)) ∧ ∃ q os', w' = Sort.grow (W.drewN q) os')
    {w : World} {base g c n : Nat} {e : TypeId} {l : List α} (hn : l.length = n) (hsz : n < 4611686018427387904) (h : w.ownsRow base e k (.slice (some ⟨g, 0, none⟩) n c) n (l.flatMap enc)) :
    Calls P (ρ.f 6) #[.slice (some ⟨g, 0, none⟩) n c, .func (.func f) #[] cb] w fun en w' =>
      en = .returned (.tuple #[]) ∧ ∃ l' : List α, l'.Perm l ∧ l'.Pairwise (fun x y => ¬ cf y x < 0) ∧ w'.ownsRow base e k (.slice (some ⟨g, 0, none⟩) n c) n (l'.flatMap enc) ∧ w.grownBy w' (some g) := by
  have hlt : g < w.heap.size := by
    rcases h.2 with ⟨h1, _⟩ | ⟨g', cap, cur, h1, hg, hh, _⟩
    · cases h1
    · injection h1 with e1 e2 e3
      injection e1 with e1
      injection e1 with e1 _ _
      subst e1
      exact (Array.getElem?_eq_some_iff.1 hh).1
  have hc := AnyQ.slices_SortFunc L k aE zE enc hk h1 cf hO f cb g 0 c l.toArray w eg (fun m os dk _ x y => hcmp x y _) (holdsK_of_owned hk hk0 hn h) hlt (by simpa [hn] using hsz)
  rw [show l.toArray.size = n by simpa using hn] at hc
  refine hc.mono ?_
  rintro en w' ⟨he, d', m, os, hp, hs, rfl⟩
  rw [show n = l.toArray.size by simpa using hn.symm] at hp hs
  have hpl := perm_of_permIn hp
  have hl' : d'.toList.length = n := by rw [hpl.length_eq]; simpa using hn
  obtain ⟨k1, k2⟩ := owned_putRowK hk hk0 hl' h m os
  refine ⟨he, d'.toList, hpl, ?_, k1, k2⟩
  rw [List.pairwise_iff_getElem]
  intro i j hi hj hij
  have hz : d'.size = n := by simpa using hl'
  have h3 := hs i j (Nat.zero_le _) hij (by simp at hj ⊢; omega)
  simp at hi hj
  rw [getElem!_pos d' j (by omega), getElem!_pos d' i (by omega)] at h3
  unfold ltOf at h3
  simpa using h3
end

end Go.Proofs.Ytpebefcmloablaa
