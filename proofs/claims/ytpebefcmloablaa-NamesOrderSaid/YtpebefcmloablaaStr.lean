/- Slices whose elements take several cells (structs), read as lists; rows of such elements that the call owns. No function of the program is walked here. -/
import Derived.Test.YtpebefcmloablaaOwn
namespace Go.Proofs.Ytpebefcmloablaa
open Go.RowKit

/-- A slice's address that reads as the list l, an element sz cells. -/
def RdK {α : Type} (enc : α → List Value) (sz : Nat) (w : World) (a : Option Addr) (l : List α) : Prop :=
  l = [] ∨ ∃ b off, a = some ⟨b, off, none⟩ ∧ b < w.heap.size ∧ ∀ i (h : i < l.length) j, j < sz → w.cell? ⟨b, off + i * sz + j, none⟩ = (enc l[i])[j]?

section
variable {α : Type} {enc : α → List Value} {sz : Nat} {w w' : World} {a : Option Addr} {l : List α}

theorem RdK.below {B : Nat} (h : RdK enc sz w a l) (hb : Below B w w') (hB : w.heap.size ≤ B := by first | exact Nat.le_refl _ | (simp; done) | (simp; omega)) : RdK enc sz w' a l := by
  rcases h with h | ⟨b, off, rfl, hlt, hc⟩
  · exact .inl h
  · exact .inr ⟨b, off, rfl, Nat.lt_of_lt_of_le hlt hb.size, fun i hi j hj => by rw [hb.cell (p := ⟨b, off + i * sz + j, none⟩) (Nat.lt_of_lt_of_le hlt hB)]; exact hc i hi j hj⟩

theorem RdK.nil : RdK enc sz w a ([] : List α) := .inl rfl

theorem RdK.get (h : RdK enc sz w a l) (hl : 0 < l.length) :
    ∃ b off, a = some ⟨b, off, none⟩ ∧ b < w.heap.size ∧ ∀ i (h : i < l.length) j, j < sz → w.cell? ⟨b, off + i * sz + j, none⟩ = (enc l[i])[j]? := by
  rcases h with rfl | h
  · simp at hl
  · exact h

theorem RdK.take (h : RdK enc sz w a l) (k : Nat) : RdK enc sz w a (l.take k) := by
  rcases h with rfl | ⟨b, off, rfl, hb, hc⟩
  · exact .inl (by simp)
  · exact .inr ⟨b, off, rfl, hb, fun i hi j hj => by rw [List.getElem_take]; exact hc i (by simp at hi; omega) j hj⟩

theorem RdK.drop {b off : Nat} (h : RdK enc sz w (some ⟨b, off, none⟩) l) (k : Nat) : RdK enc sz w (some ⟨b, off + k * sz, none⟩) (l.drop k) := by
  rcases h with h | ⟨b', off', h, hb, hc⟩
  · exact .inl (by rw [h]; simp)
  · cases h
    exact .inr ⟨b, off + k * sz, rfl, hb, fun i hi j hj => by
      rw [List.getElem_drop, show off + k * sz + i * sz + j = off + (k + i) * sz + j by rw [Nat.add_mul]; omega]
      exact hc (k + i) (by simp at hi; omega) j hj⟩

theorem RdK.cast {l' : List α} (h : RdK enc sz w a l) (e : l = l') : RdK enc sz w a l' := e ▸ h

theorem flat_len (hk : ∀ x, (enc x).length = sz) : ∀ l : List α, (l.flatMap enc).length = l.length * sz
  | [] => by simp
  | x :: l => by
    rw [List.flatMap_cons, List.length_append, hk, flat_len hk l, List.length_cons, Nat.add_mul]; omega

theorem flat_get (hk : ∀ x, (enc x).length = sz) : ∀ (l : List α) (i : Nat) (h : i < l.length) (j : Nat), j < sz → (l.flatMap enc)[i * sz + j]? = (enc l[i])[j]?
  | x :: l, 0, _, j, hj => by
    rw [List.flatMap_cons, List.getElem?_append_left (by rw [hk]; omega)]
    simp
  | x :: l, i + 1, h, j, hj => by
    rw [List.flatMap_cons, List.getElem?_append_right (by rw [hk, Nat.add_mul]; omega), hk, show (i + 1) * sz + j - sz = i * sz + j by rw [Nat.add_mul]; omega]
    exact flat_get hk l i (by simpa using h) j hj

/-- A row that the call owns reads as a list. -/
theorem RdK.of_owns (hk : ∀ x, (enc x).length = sz) {base : Nat} {e : TypeId} {v : Value} {n : Nat} (hsz : 0 < sz) (h : w.ownsRow base e sz v n (l.flatMap enc)) :
    ∃ a c, v = .slice a l.length c ∧ n = l.length ∧ l.length ≤ c ∧ RdK enc sz w a l := by
  obtain ⟨hn, h⟩ := h
  rw [flat_len hk] at hn
  have hn' : n = l.length := Nat.eq_of_mul_eq_mul_right hsz hn.symm
  subst hn'
  rcases h with ⟨rfl, h0⟩ | ⟨g, cap, cur, rfl, hg, hh, hc, hm, hs, ht⟩
  · have : l = [] := List.eq_nil_of_length_eq_zero h0
    subst this
    exact ⟨none, 0, rfl, rfl, Nat.le_refl _, .inl rfl⟩
  · refine ⟨_, cap, rfl, rfl, hc, .inr ⟨g, 0, rfl, (Array.getElem?_eq_some_iff.1 hh).1, fun i hi j hj => ?_⟩⟩
    have h1 := flat_get hk l i hi j hj
    rw [← ht, List.getElem?_take] at h1
    have hlt : i * sz + j < l.length * sz := Nat.lt_of_lt_of_le (show i * sz + j < (i + 1) * sz by rw [Nat.add_mul]; omega) (Nat.mul_le_mul_right _ hi)
    rw [if_pos hlt] at h1
    unfold World.cell?
    simp only [hh, Nat.zero_add]
    simpa using h1

/-- A literal's block reads as its list. -/
theorem RdK.lit (hk : ∀ x, (enc x).length = sz) (W : World) (e : TypeId) (l : List α) (n : Nat) (hn : n = W.heap.size) : RdK enc sz (W.alloc (.cells (l.flatMap enc).toArray e)) (some ⟨n, 0, none⟩) l := by
  refine .inr ⟨_, 0, rfl, by simp; omega, fun i hi j hj => ?_⟩
  rw [World.cell?_alloc_at _ _ _ _ hn, Nat.zero_add]
  simpa using flat_get hk l i hi j hj
end

section
variable {P : Program} {ops : Array Oper} {rest : List Oper} {o : Oper} {a : Act} {Q : Exit → Act → World → Prop}

/-- append(v, l...): l a slice of structs that reads as a list, nil too. -/
theorem wp_appendK {α : Type} {enc : α → List Value} {sz : Nat} {t e : TypeId} {bytes : Nat} (E : ElemOK P t e sz bytes) (hk : ∀ x, (enc x).length = sz) (h1 : ∀ x, ∀ u ∈ enc x, u.oneCell' = true) (base : Nat) {v : Value} {n : Nat} {xs : List Value} {W : World} (hown : W.ownsRow base e sz v n xs) {ad : Option Addr} {l : List α} (hl : RdK enc sz W ad l)
    (hgd : o.guard = none) (s x : Operand) (ho : o.op = .call { callee := .builtin .append, args := #[s, x], argTypes := #[t, t] })
    (hs : a.eval s = v) (c : Nat) (hx : a.eval x = .slice ad l.length c) (h63 : n + l.length ≤ maxLen) (hbytes : (n + l.length) * bytes ≤ 140737488355328) (hbase : base ≤ W.heap.size)
    (h : ∀ v' w', w'.ownsRow base e sz v' (n + l.length) (xs ++ l.flatMap enc) → W.grownBy w' v.ownBlock → wpList P ops Q rest (a.put o.dst v') w') : wpList P ops Q (o :: rest) a W := by
  rcases hl with rfl | ⟨b, off, rfl, hb, hc⟩
  · refine wpList_plain hgd fun K hK => ?_
    have hr := run_append_nothing (ty := o.type) E hown ad c
    have hx' : a.eval x = .slice ad 0 c := hx
    have hk := hK _ _ (h v W (by simpa using hown) ⟨rfl, rfl, rfl, Nat.le_refl _, fun _ _ _ => rfl⟩)
    unfold Oper.wp execOp
    simp only [ho, resolve, invoke, builtin, Sem.run_bind, Sem.run_pure, Result.andThen_ok, List.map_toArray, List.map_cons, List.map_nil, hs, hx', hr]
    exact hk
  · obtain ⟨ht, ⟨i, z, hi, hz, hsize, hby, hzs⟩, hsz⟩ := E
    refine wpList_append_own _ hgd s x t ho base e i z sz bytes ht hi hz hsize hby hzs hsz v n xs hs hown ⟨b, off, none⟩ l.length c (l.flatMap enc) hx (flat_len hk l) ?_ ?_ h63 hbytes hbase ?_
    · intro j u hu
      have hadd : (⟨b, off, none⟩ : Addr).add j = ⟨b, off + j, none⟩ := by unfold Addr.add; split <;> simp_all
      rw [hadd]
      have hj : j < l.length * sz := by
        have := (List.getElem?_eq_some_iff.1 hu).1
        rw [flat_len hk] at this
        exact this
      have hi' : j / sz < l.length := (Nat.div_lt_iff_lt_mul hsz).2 hj
      have h2 := hc (j / sz) hi' (j % sz) (Nat.mod_lt _ hsz)
      have h3 := flat_get hk l (j / sz) hi' (j % sz) (Nat.mod_lt _ hsz)
      have e1 : j / sz * sz + j % sz = j := by rw [Nat.mul_comm]; exact Nat.div_add_mod j sz
      rw [e1] at h3
      rw [Nat.add_assoc, e1] at h2
      rw [h2, ← h3]
      exact hu
    · intro u hu
      obtain ⟨y, _, hy⟩ := List.mem_flatMap.1 hu
      exact h1 y u hy
    · intro v' w' h2 h3 _
      exact h v' w' h2 h3
end

/-! A region that draws its order, whose operations only read, and whose callees may lay blocks: walked once, in the class of worlds that are the same below. -/
structure BelowW (w : World) where
  W : World
  h : Below w.heap.size w W

instance belowWSome (w : World) : Inhabited (BelowW w) := ⟨⟨w, Below.refl _ _⟩⟩

theorem wp_region_below {P : Program} {id : Nat} {Q : Exit → Act → World → Prop} {a : Act} {w : World} {l : List Oper} (hm : P.follows .mixedOrders = true) (hB : Region.lexB .any l.toArray = true)
    (h : wpQuiet P l.toArray (fun w' => ∃ p : BelowW w, w' = p.W) (fun a' => ∀ w', (∃ p : BelowW w, w' = p.W) → Q .normal a' w') l a) : (Code.region id l.toArray true).wp P Q a w :=
  wp_region_quiet (C := fun w' => ∃ p : BelowW w, w' = p.W) hm hB ⟨⟨w.drew, (Below.refl _ _).drew⟩, rfl⟩ (by simpa using h)

theorem calls_below {P : Program} {f : FuncId} {args : Array Value} {w : World} {p : BelowW w} {v : Value}
    (h : Calls P f args p.W fun e w' => e = .returned v ∧ Below p.W.heap.size p.W w') : Calls P f args p.W fun e w'' => e = .returned v ∧ ∃ q : BelowW w, w'' = q.W :=
  h.mono fun _ w' ⟨he, hb⟩ => ⟨he, ⟨w', p.h.trans (hb.mono p.h.size)⟩, rfl⟩

theorem cell_belowW {w : World} {ad : Addr} {v : Value} (h : w.cell? ad = some v) : ∀ p : BelowW w, p.W.cell? ad = some v := fun p => by
  rw [p.h.cell (World.block_lt_of_cell? w _ h)]; exact h

end Go.Proofs.Ytpebefcmloablaa
