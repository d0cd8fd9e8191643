/- Several texts in one: Str, ApB, Ins, Kps, S32, FrmP, CscP, PtP, RankP, CsP, Kid, Pol, Hdt, Dwn, Slc. -/
import Derived.Test.YtggfdlanobndjaaGreatQ1
import Derived.Maps.AppendAt
import Derived.Laws.OwnMore
import Derived.Deep.AppendLies
import Derived.Deep.RegionLaw
import Derived.RangeFuncRecord
import Derived.RangeFuncBox
import Derived.Test.YtggfdlanobndjaaGreatQ2
import Derived.Test.YtggfdlanobndjaaGreatProg
import Derived.WalkKit
import Derived.RangeFuncNested
import Derived.RangeFuncBound
import Derived.RangeFuncCalls
import Derived.RangeFuncLeaves
import Derived.RangeFuncWrites
import Derived.Shelf.Abstract
import Derived.Shelf.RegionOpen
import Derived.OwnWalkIn
import Derived.TacticsInMore
import Derived.LoopNIn
import Derived.LoopIn
import Derived.Maps.OwnIn
import Derived.OrdersHeld
import Derived.StillTail
import Derived.Deep.Quiet
import Derived.Outline
import Derived.Deep.CutBlock
import Derived.Deep.CutRange

/- Slices whose elements take several cells (structs), read as lists; rows of such elements that the call owns. No function of the program is walked here. -/
namespace Go.Proofs.YtggfdlanobndjaaGreat
open Go.RowKit

/-- A slice's address that reads as the list l, an element sz cells. -/
def RdK {α : Type} (enc : α → List Value) (sz : Nat) (w : World) (a : Option Addr) (l : List α) : Prop :=
  l = [] ∨ ∃ b off, a = some ⟨b, off, none⟩ ∧ b < w.heap.size ∧ ∀ i (h : i < l.length) j, j < sz → w.cell? ⟨b, off + i * sz + j, none⟩ = (enc l[i])[j]?

section
variable {α : Type} {enc : α → List Value} {sz : Nat} {w w' : World} {a : Option Addr} {l : List α}

theorem RdK.below {B : Nat} (h : RdK enc sz w a l) (hb : Below B w w') (hB : w.heap.size ≤ B := by first | exact Nat.le_refl _ | (simp; done) | (simp; omega)) : RdK enc sz w' a l := by
  rcases h with h | ⟨b, off, rfl, hlt, hc⟩
  · exact .inl h
  · exact .inr ⟨b, off, rfl, Nat.lt_of_lt_of_le hlt hb.size, fun i hi j hj => by rw [hb.cell (p := ⟨b, off + i * sz + j, none⟩) (Nat.lt_of_lt_of_le hlt hB)]; exact hc i hi j hj⟩

theorem RdK.nil : RdK enc sz w a ([] : List α) := .inl rfl

theorem RdK.get (h : RdK enc sz w a l) (hl : 0 < l.length) :
    ∃ b off, a = some ⟨b, off, none⟩ ∧ b < w.heap.size ∧ ∀ i (h : i < l.length) j, j < sz → w.cell? ⟨b, off + i * sz + j, none⟩ = (enc l[i])[j]? := by
  rcases h with rfl | h
  · simp at hl
  · exact h

theorem RdK.take (h : RdK enc sz w a l) (k : Nat) : RdK enc sz w a (l.take k) := by
  rcases h with rfl | ⟨b, off, rfl, hb, hc⟩
  · exact .inl (by simp)
  · exact .inr ⟨b, off, rfl, hb, fun i hi j hj => by rw [List.getElem_take]; exact hc i (by simp at hi; omega) j hj⟩

theorem RdK.drop {b off : Nat} (h : RdK enc sz w (some ⟨b, off, none⟩) l) (k : Nat) : RdK enc sz w (some ⟨b, off + k * sz, none⟩) (l.drop k) := by
  rcases h with h | ⟨b', off', h, hb, hc⟩
  · exact .inl (by rw [h]; simp)
  · cases h
    exact .inr ⟨b, off + k * sz, rfl, hb, fun i hi j hj => by
      rw [List.getElem_drop, show off + k * sz + i * sz + j = off + (k + i) * sz + j by rw [Nat.add_mul]; omega]
      exact hc (k + i) (by simp at hi; omega) j hj⟩

theorem RdK.cast {l' : List α} (h : RdK enc sz w a l) (e : l = l') : RdK enc sz w a l' := e ▸ h

theorem flat_len (hk : ∀ x, (enc x).length = sz) : ∀ l : List α, (l.flatMap enc).length = l.length * sz
  | [] => by simp
  | x :: l => by
    rw [List.flatMap_cons, List.length_append, hk, flat_len hk l, List.length_cons, Nat.add_mul]; omega

theorem flat_get (hk : ∀ x, (enc x).length = sz) : ∀ (l : List α) (i : Nat) (h : i < l.length) (j : Nat), j < sz → (l.flatMap enc)[i * sz + j]? = (enc l[i])[j]?
  | x :: l, 0, _, j, hj => by
    rw [List.flatMap_cons, List.getElem?_append_left (by rw [hk]; omega)]
    simp
  | x :: l, i + 1, h, j, hj => by
    rw [List.flatMap_cons, List.getElem?_append_right (by rw [hk, Nat.add_mul]; omega), hk, show (i + 1) * sz + j - sz = i * sz + j by rw [Nat.add_mul]; omega]
    exact flat_get hk l i (by simpa using h) j hj

/-- A row that the call owns reads as a list. -/
theorem RdK.of_owns (hk : ∀ x, (enc x).length = sz) {base : Nat} {e : TypeId} {v : Value} {n : Nat} (hsz : 0 < sz) (h : w.ownsRow base e sz v n (l.flatMap enc)) :
    ∃ a c, v = .slice a l.length c ∧ n = l.length ∧ l.length ≤ c ∧ RdK enc sz w a l := by
  obtain ⟨hn, h⟩ := h
  rw [flat_len hk] at hn
  have hn' : n = l.length := Nat.eq_of_mul_eq_mul_right hsz hn.symm
  subst hn'
  rcases h with ⟨rfl, h0⟩ | ⟨g, cap, cur, rfl, hg, hh, hc, hm, hs, ht⟩
  · have : l = [] := List.eq_nil_of_length_eq_zero h0
    subst this
    exact ⟨none, 0, rfl, rfl, Nat.le_refl _, .inl rfl⟩
  · refine ⟨_, cap, rfl, rfl, hc, .inr ⟨g, 0, rfl, (Array.getElem?_eq_some_iff.1 hh).1, fun i hi j hj => ?_⟩⟩
    have h1 := flat_get hk l i hi j hj
    rw [← ht, List.getElem?_take] at h1
    have hlt : i * sz + j < l.length * sz := Nat.lt_of_lt_of_le (show i * sz + j < (i + 1) * sz by rw [Nat.add_mul]; omega) (Nat.mul_le_mul_right _ hi)
    rw [if_pos hlt] at h1
    unfold World.cell?
    simp only [hh, Nat.zero_add]
    simpa using h1

/-- A literal's block reads as its list. -/
theorem RdK.lit (hk : ∀ x, (enc x).length = sz) (W : World) (e : TypeId) (l : List α) (n : Nat) (hn : n = W.heap.size) : RdK enc sz (W.alloc (.cells (l.flatMap enc).toArray e)) (some ⟨n, 0, none⟩) l := by
  refine .inr ⟨_, 0, rfl, by simp; omega, fun i hi j hj => ?_⟩
  rw [World.cell?_alloc_at _ _ _ _ hn, Nat.zero_add]
  simpa using flat_get hk l i hi j hj
end

section
variable {P : Program} {ops : Array Oper} {rest : List Oper} {o : Oper} {a : Act} {Q : Exit → Act → World → Prop}

/-- append(v, l...): l a slice of structs that reads as a list, nil too. -/
theorem wp_appendK {α : Type} {enc : α → List Value} {sz : Nat} {t e : TypeId} {bytes : Nat} (E : ElemOK P t e sz bytes) (hk : ∀ x, (enc x).length = sz) (h1 : ∀ x, ∀ u ∈ enc x, u.oneCell' = true) (base : Nat) {v : Value} {n : Nat} {xs : List Value} {W : World} (hown : W.ownsRow base e sz v n xs) {ad : Option Addr} {l : List α} (hl : RdK enc sz W ad l)
    (hgd : o.guard = none) (s x : Operand) (ho : o.op = .call { callee := .builtin .append, args := #[s, x], argTypes := #[t, t] })
    (hs : a.eval s = v) (c : Nat) (hx : a.eval x = .slice ad l.length c) (h63 : n + l.length ≤ maxLen) (hbytes : (n + l.length) * bytes ≤ 140737488355328) (hbase : base ≤ W.heap.size)
    (h : ∀ v' w', w'.ownsRow base e sz v' (n + l.length) (xs ++ l.flatMap enc) → W.grownBy w' v.ownBlock → wpList P ops Q rest (a.put o.dst v') w') : wpList P ops Q (o :: rest) a W := by
  rcases hl with rfl | ⟨b, off, rfl, hb, hc⟩
  · refine wpList_plain hgd fun K hK => ?_
    have hr := run_append_nothing (ty := o.type) E hown ad c
    have hx' : a.eval x = .slice ad 0 c := hx
    have hk := hK _ _ (h v W (by simpa using hown) ⟨rfl, rfl, rfl, Nat.le_refl _, fun _ _ _ => rfl⟩)
    unfold Oper.wp execOp
    simp only [ho, resolve, invoke, builtin, Sem.run_bind, Sem.run_pure, Result.andThen_ok, List.map_toArray, List.map_cons, List.map_nil, hs, hx', hr]
    exact hk
  · obtain ⟨ht, ⟨i, z, hi, hz, hsize, hby, hzs⟩, hsz⟩ := E
    refine wpList_append_own _ hgd s x t ho base e i z sz bytes ht hi hz hsize hby hzs hsz v n xs hs hown ⟨b, off, none⟩ l.length c (l.flatMap enc) hx (flat_len hk l) ?_ ?_ h63 hbytes hbase ?_
    · intro j u hu
      have hadd : (⟨b, off, none⟩ : Addr).add j = ⟨b, off + j, none⟩ := by unfold Addr.add; split <;> simp_all
      rw [hadd]
      have hj : j < l.length * sz := by
        have := (List.getElem?_eq_some_iff.1 hu).1
        rw [flat_len hk] at this
        exact this
      have hi' : j / sz < l.length := (Nat.div_lt_iff_lt_mul hsz).2 hj
      have h2 := hc (j / sz) hi' (j % sz) (Nat.mod_lt _ hsz)
      have h3 := flat_get hk l (j / sz) hi' (j % sz) (Nat.mod_lt _ hsz)
      have e1 : j / sz * sz + j % sz = j := by rw [Nat.mul_comm]; exact Nat.div_add_mod j sz
      rw [e1] at h3
      rw [Nat.add_assoc, e1] at h2
      rw [h2, ← h3]
      exact hu
    · intro u hu
      obtain ⟨y, _, hy⟩ := List.mem_flatMap.1 hu
      exact h1 y u hy
    · intro v' w' h2 h3 _
      exact h v' w' h2 h3
end

/-! A region that draws its order, whose operations only read, and whose callees may lay blocks: walked once, in the class of worlds that are the same below. -/
structure BelowW (w : World) where
  W : World
  h : Below w.heap.size w W

instance belowWSome (w : World) : Inhabited (BelowW w) := ⟨⟨w, Below.refl _ _⟩⟩

theorem wp_region_below {P : Program} {id : Nat} {Q : Exit → Act → World → Prop} {a : Act} {w : World} {l : List Oper} (hm : P.follows .mixedOrders = true) (hB : Region.lexB .any l.toArray = true)
    (h : wpQuiet P l.toArray (fun w' => ∃ p : BelowW w, w' = p.W) (fun a' => ∀ w', (∃ p : BelowW w, w' = p.W) → Q .normal a' w') l a) : (Code.region id l.toArray true).wp P Q a w :=
  wp_region_quiet (C := fun w' => ∃ p : BelowW w, w' = p.W) hm hB ⟨⟨w.drew, (Below.refl _ _).drew⟩, rfl⟩ (by simpa using h)

theorem calls_below {P : Program} {f : FuncId} {args : Array Value} {w : World} {p : BelowW w} {v : Value}
    (h : Calls P f args p.W fun e w' => e = .returned v ∧ Below p.W.heap.size p.W w') : Calls P f args p.W fun e w'' => e = .returned v ∧ ∃ q : BelowW w, w'' = q.W :=
  h.mono fun _ w' ⟨he, hb⟩ => ⟨he, ⟨w', p.h.trans (hb.mono p.h.size)⟩, rfl⟩

theorem cell_belowW {w : World} {ad : Addr} {v : Value} (h : w.cell? ad = some v) : ∀ p : BelowW w, p.W.cell? ad = some v := fun p => by
  rw [p.h.cell (World.block_lt_of_cell? w _ h)]; exact h

end Go.Proofs.YtggfdlanobndjaaGreat

/- Laws of append for rows that the call owns, with the word in which block the new row lies. No function of the program is walked here. -/
namespace Go.Proofs.YtggfdlanobndjaaGreat
open Go.RowKit
set_option linter.unusedVariables false

/-- the block is the old row's, or a new one -/
def BlkOf (W : World) (v v' : Value) : Prop := v'.ownBlock = v.ownBlock ∨ v'.ownBlock = some W.heap.size

theorem run_append_ownB {P : Program} {t ty e : TypeId} {size bytes : Nat} (E : ElemOK P t e size bytes) (base : Nat) {v : Value} {n : Nat} {xs : List Value} {w : World} (hown : w.ownsRow base e size v n xs)
    (a : Addr) (m c : Nat) (news : List Value) (hl : news.length = m * size) (hnews : ∀ j u, news[j]? = some u → w.cell? (a.add j) = some u) (h1 : ∀ u ∈ news, u.oneCell' = true)
    (h63 : n + m ≤ maxLen) (hbytes : (n + m) * bytes ≤ 140737488355328) (hbase : base ≤ w.heap.size) :
    ∃ v' w', (Builtin.append_ #[t, t] ty #[v, .slice (some a) m c]).run P w = .ok v' w' ∧ w'.ownsRow base e size v' (n + m) (xs ++ news) ∧ w.grownBy w' v.ownBlock ∧ BlkOf w v v' := by
  obtain ⟨ht, ⟨i, z, hi, hz, hsize, hby, hzs⟩, hsz⟩ := E
  obtain ⟨v', w', hr, h2, h3, h4⟩ := run_append_own (P := P) w base t ty e i z size bytes ht hi hz hsize hby hzs hsz v n xs hown a m c news hl hnews h1 h63 hbytes hbase
  refine ⟨v', w', hr, h2, h3, ?_⟩
  subst hsize
  subst hby
  have hsmall : n + m ≤ 9223372036854775807 := by simp only [maxLen] at h63; omega
  rcases hown.2 with ⟨rfl, rfl⟩ | ⟨g, cap, cur, rfl, hbg, hg, hnc, hcm, hcs, htake⟩
  · by_cases hm : m = 0
    · rw [h4.2 ⟨rfl, hm⟩]; exact .inl rfl
    · have hr2 := run_append_nil (P := P) w t ty e i z ht hi hz a m c news hl hnews (by omega) (by omega) (by simp only [Nat.zero_add] at hbytes; omega)
      rw [hr] at hr2
      injection hr2 with h5 _
      rw [h5]
      exact .inr rfl
  · by_cases hroom : n + m ≤ cap
    · have hfit : n * i.size + news.length ≤ cur.size := by rw [hl, hcs, ← Nat.add_mul]; exact Nat.mul_le_mul_right _ hroom
      have hr2 := run_append_room (P := P) w t ty e i ht hi g n cap cur hg a m c news hl hnews h1 hroom hfit
      rw [hr] at hr2
      injection hr2 with h5 _
      rw [h5]
      exact .inl rfl
    · have holds : ∀ j u, xs[j]? = some u → w.cell? ((⟨g, 0, none⟩ : Addr).add j) = some u := hown.cells (g := g) rfl
      have hr2 := run_append_grow (P := P) w t ty e i z ht hi hz ⟨g, 0, none⟩ n cap xs hown.1 holds a m c news hl hnews (by omega) (by omega) (growslice_fits (by omega) hbytes)
      rw [hr] at hr2
      injection hr2 with h5 _
      rw [h5]
      exact .inr rfl

theorem blkOf_alloc {w : World} {o : Obj} {v v' : Value} (h : BlkOf (w.alloc o) v v') : v'.ownBlock = v.ownBlock ∨ ∃ b, v'.ownBlock = some b ∧ w.heap.size ≤ b := by
  rcases h with h | h
  · exact .inl h
  · exact .inr ⟨_, h, by simp⟩

section
variable {P : Program} {ops : Array Oper} {rest : List Oper} {o : Oper} {a : Act} {Q : Exit → Act → World → Prop}

/-- append(v, x): the element's cells stand in a new block of their own; the block told. -/
theorem wp_append1B {t e : TypeId} {size bytes : Nat} (E : ElemOK P t e size bytes) (base : Nat) {v : Value} {n : Nat} {xs : List Value} {W : World} (hown : W.ownsRow base e size v n xs) (us : List Value) (hus : us.length = size) (h1 : ∀ u ∈ us, u.oneCell' = true)
    (hgd : o.guard = none) (s x : Operand) (ho : o.op = .call { callee := .builtin .append, args := #[s, x], argTypes := #[t, t] })
    (hs : a.eval s = v) (e' : TypeId) (hx : a.eval x = .slice (some ⟨W.heap.size, 0, none⟩) 1 1) (h63 : n + 1 ≤ maxLen) (hbytes : (n + 1) * bytes ≤ 140737488355328) (hbase : base ≤ W.heap.size)
    (h : ∀ v' w', w'.ownsRow base e size v' (n + 1) (xs ++ us) → W.grownBy w' v.ownBlock → BlkOf (W.alloc (.cells us.toArray e')) v v' → wpList P ops Q rest (a.put o.dst v') w') : wpList P ops Q (o :: rest) a (W.alloc (.cells us.toArray e')) := by
  refine wpList_plain hgd fun K hK => ?_
  obtain ⟨v', w', hr, h2, h3, h4⟩ := run_append_ownB (ty := o.type) E base (hown.alloc (.cells us.toArray e')) ⟨W.heap.size, 0, none⟩ 1 1 us (by omega) (by
    intro j u hu
    have hadd : (⟨W.heap.size, 0, none⟩ : Addr).add j = ⟨W.heap.size, j, none⟩ := by unfold Addr.add; split <;> simp_all
    rw [hadd, World.cell?_alloc_at _ _ _ _ (by rfl)]
    simpa using hu) h1 h63 hbytes (by simp; omega)
  have hk := hK _ _ (h v' w' h2 (grownBy_trans (World.grownBy_alloc W _ none) h3) h4)
  unfold Oper.wp execOp
  simp only [ho, resolve, invoke, builtin, Sem.run_bind, Sem.run_pure, Result.andThen_ok, List.map_toArray, List.map_cons, List.map_nil, hs, hx, hr]
  exact hk

/-- append(v, l...): l a slice of structs that reads as a list, nil too; the block told. -/
theorem wp_appendKB {α : Type} {enc : α → List Value} {sz : Nat} {t e : TypeId} {bytes : Nat} (E : ElemOK P t e sz bytes) (hk : ∀ x, (enc x).length = sz) (h1 : ∀ x, ∀ u ∈ enc x, u.oneCell' = true) (base : Nat) {v : Value} {n : Nat} {xs : List Value} {W : World} (hown : W.ownsRow base e sz v n xs) {ad : Option Addr} {l : List α} (hl : RdK enc sz W ad l)
    (hgd : o.guard = none) (s x : Operand) (ho : o.op = .call { callee := .builtin .append, args := #[s, x], argTypes := #[t, t] })
    (hs : a.eval s = v) (c : Nat) (hx : a.eval x = .slice ad l.length c) (h63 : n + l.length ≤ maxLen) (hbytes : (n + l.length) * bytes ≤ 140737488355328) (hbase : base ≤ W.heap.size)
    (h : ∀ v' w', w'.ownsRow base e sz v' (n + l.length) (xs ++ l.flatMap enc) → W.grownBy w' v.ownBlock → BlkOf W v v' → wpList P ops Q rest (a.put o.dst v') w') : wpList P ops Q (o :: rest) a W := by
  refine wpList_plain hgd fun K hK => ?_
  rcases hl with rfl | ⟨b, off, rfl, hb, hc⟩
  · have hr := run_append_nothing (ty := o.type) E hown ad c
    have hx' : a.eval x = .slice ad 0 c := hx
    have hk := hK _ _ (h v W (by simpa using hown) ⟨rfl, rfl, rfl, Nat.le_refl _, fun _ _ _ => rfl⟩ (.inl rfl))
    unfold Oper.wp execOp
    simp only [ho, resolve, invoke, builtin, Sem.run_bind, Sem.run_pure, Result.andThen_ok, List.map_toArray, List.map_cons, List.map_nil, hs, hx', hr]
    exact hk
  · obtain ⟨v', w', hr, h2, h3, h4⟩ := run_append_ownB (ty := o.type) E base hown ⟨b, off, none⟩ l.length c (l.flatMap enc) (flat_len hk l) (by
      intro j u hu
      have hadd : (⟨b, off, none⟩ : Addr).add j = ⟨b, off + j, none⟩ := by unfold Addr.add; split <;> simp_all
      rw [hadd]
      have hj : j < l.length * sz := by
        have := (List.getElem?_eq_some_iff.1 hu).1
        rw [flat_len hk] at this
        exact this
      have hsz : 0 < sz := E.hsz
      have hi' : j / sz < l.length := (Nat.div_lt_iff_lt_mul hsz).2 hj
      have h2 := hc (j / sz) hi' (j % sz) (Nat.mod_lt _ hsz)
      have h3 := flat_get hk l (j / sz) hi' (j % sz) (Nat.mod_lt _ hsz)
      have e1 : j / sz * sz + j % sz = j := by rw [Nat.mul_comm]; exact Nat.div_add_mod j sz
      rw [e1] at h3
      rw [Nat.add_assoc, e1] at h2
      rw [h2, ← h3]
      exact hu) (by
      intro u hu
      obtain ⟨y, _, hy⟩ := List.mem_flatMap.1 hu
      exact h1 y u hy) h63 hbytes hbase
    have hk := hK _ _ (h v' w' h2 h3 h4)
    unfold Oper.wp execOp
    simp only [ho, resolve, invoke, builtin, Sem.run_bind, Sem.run_pure, Result.andThen_ok, List.map_toArray, List.map_cons, List.map_nil, hs, hx, hr]
    exact hk
end

end Go.Proofs.YtggfdlanobndjaaGreat

/- Lists in which one element is put in; rows that are owned. No function of the program is walked here. -/
namespace Go.Proofs.YtggfdlanobndjaaGreat
open Go.RowKit

/-- S with x put in at k -/
def insA {α : Type} (S : List α) (k : Nat) (x : α) : List α := S.take k ++ x :: S.drop k

section
variable {α : Type} (S : List α) (k : Nat) (x : α)
theorem insA_len (h : k ≤ S.length) : (insA S k x).length = S.length + 1 := by simp [insA]; omega
theorem insA_top : insA S S.length x = S ++ [x] := by simp [insA]
theorem insA_perm : (insA S k x).Perm (S ++ [x]) := by
  unfold insA
  refine List.perm_middle.trans ?_
  rw [List.take_append_drop]
  exact (List.perm_append_singleton x S).symm
theorem insA_mem (y : α) : y ∈ insA S k x ↔ y ∈ S ∨ y = x := by
  rw [(insA_perm S k x).mem_iff]
  simp
theorem insA_get (h : k ≤ S.length) : (insA S k x)[k]'(by rw [insA_len S k x h]; omega) = x := by
  unfold insA
  rw [List.getElem_append_right (by simp; omega)]
  simp [Nat.min_eq_left h]
theorem insA_prev (h0 : 0 < k) (h : k ≤ S.length) : (insA S k x)[k - 1]'(by rw [insA_len S k x h]; omega) = S[k - 1] := by
  unfold insA
  rw [List.getElem_append_left (by simp; omega)]
  simp
theorem insA_set (y : α) (h : k ≤ S.length) : (insA S k x).set k y = insA S k y := by
  unfold insA
  have l1 : (S.take k).length = k := by simp; omega
  rw [List.set_append_right _ _ (by omega), l1]
  simp
/-- the element ahead of the gap is moved into it -/
theorem insA_shift (h0 : 0 < k) (h : k ≤ S.length) : (insA S k x).set k S[k - 1] = insA S (k - 1) S[k - 1] := by
  rw [insA_set S k x _ h]
  obtain ⟨m, rfl⟩ : ∃ m, k = m + 1 := ⟨k - 1, by omega⟩
  simp only [Nat.add_sub_cancel]
  unfold insA
  have e1 : S.take (m + 1) = S.take m ++ [S[m]] := List.take_succ_eq_append_getElem (by omega)
  have e2 : S.drop m = S[m] :: S.drop (m + 1) := List.drop_eq_getElem_cons (by omega)
  rw [e1, e2, List.append_assoc]
  rfl
theorem insA_pairwise {R : α → α → Prop} {S : List α} {k : Nat} {x : α} (hS : S.Pairwise R) (h1 : ∀ y ∈ S.drop k, R x y) (h2 : ∀ y ∈ S.take k, R y x) : (insA S k x).Pairwise R := by
  unfold insA
  rw [List.pairwise_append]
  refine ⟨hS.sublist (List.take_sublist _ _), ?_, ?_⟩
  · rw [List.pairwise_cons]
    exact ⟨h1, hS.sublist (List.drop_sublist _ _)⟩
  · intro y hy z hz
    rcases List.mem_cons.1 hz with rfl | hz
    · exact h2 y hy
    · rw [← List.take_append_drop k S, List.pairwise_append] at hS
      exact hS.2.2 y hy z hz
theorem drop_pred (h0 : 0 < k) (h : k ≤ S.length) : S.drop (k - 1) = S[k - 1] :: S.drop k := by
  have := List.drop_eq_getElem_cons (show k - 1 < S.length by omega)
  rw [show k - 1 + 1 = k by omega] at this
  exact this
end

theorem ownRow_at {w : World} {base : Nat} {e : TypeId} {size : Nat} {v : Value} {n : Nat} {xs : List Value} (h : w.ownsRow base e size v n xs) (h0 : 0 < n) : ∃ g c, v = .slice (some ⟨g, 0, none⟩) n c ∧ base ≤ g ∧ g < w.heap.size ∧ n ≤ c ∧ c ≤ maxLen := by
  rcases h.2 with ⟨_, h1⟩ | ⟨g, cap, cur, rfl, h2, h3, h4, h5, _⟩
  · omega
  · exact ⟨g, cap, rfl, h2, (Array.getElem?_eq_some_iff.1 h3).1, h4, h5⟩

theorem owns_sameH {w w' : World} {base : Nat} {e : TypeId} {size n : Nat} {v : Value} {xs : List Value} (h : w.ownsRow base e size v n xs) (he : ∀ gb, v.ownBlock = some gb → w'.heap[gb]? = w.heap[gb]?) : w'.ownsRow base e size v n xs := by
  obtain ⟨h1, h2⟩ := h
  refine ⟨h1, ?_⟩
  rcases h2 with h | ⟨g, cap, cur, rfl, hg, hh, r⟩
  · exact .inl h
  · exact .inr ⟨g, cap, cur, rfl, hg, (he g rfl).trans hh, r⟩

theorem heap_setNe {w : World} {a : Addr} {v : Value} {b : Nat} (h : a.block ≠ b) : (w.setCell a v).heap[b]? = w.heap[b]? := Below.heap_setCell w a v b (Ne.symm h)

/-- the begin of a row -/
theorem ownsRow_take {w : World} {base g n c m : Nat} {e : TypeId} {size : Nat} {xs : List Value} (h : w.ownsRow base e size (.slice (some ⟨g, 0, none⟩) n c) n xs) (hm : m ≤ n) : w.ownsRow base e size (.slice (some ⟨g, 0, none⟩) m c) m (xs.take (m * size)) := by
  obtain ⟨h1, h2⟩ := h
  have hle : m * size ≤ n * size := Nat.mul_le_mul_right _ hm
  refine ⟨by rw [List.length_take, h1]; omega, ?_⟩
  rcases h2 with ⟨h, _⟩ | ⟨g', cap, cur, h3, hg, hh, hc, hx, hs, ht⟩
  · cases h
  · injection h3 with e1 e2 e3
    injection e1 with e1
    injection e1 with e1 _ _
    subst e1 e3
    refine .inr ⟨g, c, cur, rfl, hg, hh, by omega, hx, hs, ?_⟩
    have := congrArg (List.take (m * size)) ht
    rw [List.take_take, Nat.min_eq_left hle] at this
    exact this

theorem flatMap_take {α : Type} {enc : α → List Value} {sz : Nat} (hk : ∀ x, (enc x).length = sz) : ∀ (l : List α) (m : Nat), (l.flatMap enc).take (m * sz) = (l.take m).flatMap enc
  | [], m => by simp
  | x :: l, 0 => by simp
  | x :: l, m + 1 => by
    rw [List.flatMap_cons, List.take_succ_cons, List.flatMap_cons, Nat.add_mul, Nat.one_mul, Nat.add_comm, ← hk x, List.take_length_add_append, hk x, flatMap_take hk l m]

end Go.Proofs.YtggfdlanobndjaaGreat

/- Footprints: blocks outside a set stay; rows and blocks kept; laws of calls and appends in regions that draw. (The same laws as in Car, Put, PutN of the Names seat, for any seat.) -/
namespace Go.Proofs.YtggfdlanobndjaaGreat
open Go.RowKit
set_option linter.unusedSimpArgs false
set_option linter.unusedVariables false

/-- blocks outside S stay -/
structure KpS (S : Nat → Prop) (W w' : World) : Prop where
  os : w'.os = W.os
  tape : w'.tape = W.tape
  output : w'.output = W.output
  size : W.heap.size ≤ w'.heap.size
  block : ∀ k, k < W.heap.size → ¬ S k → w'.heap[k]? = W.heap[k]?

theorem KpS.refl (S : Nat → Prop) (W : World) : KpS S W W := ⟨rfl, rfl, rfl, Nat.le_refl _, fun _ _ _ => rfl⟩
theorem KpS.trans {S : Nat → Prop} {W w1 w2 : World} (h : KpS S W w1) (h2 : KpS S w1 w2) : KpS S W w2 :=
  ⟨h2.os.trans h.os, h2.tape.trans h.tape, h2.output.trans h.output, Nat.le_trans h.size h2.size, fun k hk hs => (h2.block k (Nat.lt_of_lt_of_le hk h.size) hs).trans (h.block k hk hs)⟩
theorem KpS.below {S : Nat → Prop} {W w1 w2 : World} (h : KpS S W w1) (h2 : Below w1.heap.size w1 w2) : KpS S W w2 :=
  ⟨h2.os.trans h.os, h2.tape.trans h.tape, h2.output.trans h.output, Nat.le_trans h.size h2.size, fun k hk hs => (h2.block k (Nat.lt_of_lt_of_le hk h.size)).trans (h.block k hk hs)⟩
theorem KpS.grown {S : Nat → Prop} {W w1 w2 : World} {r : Option Nat} (h : KpS S W w1) (h2 : w1.grownBy w2 r) (hr : ∀ k, r = some k → S k ∨ W.heap.size ≤ k) : KpS S W w2 :=
  ⟨h2.os.trans h.os, h2.tape.trans h.tape, h2.output.trans h.output, Nat.le_trans h.size h2.size, fun k hk hs => (h2.block k (Nat.lt_of_lt_of_le hk h.size) (fun e => by rcases hr k e.symm with h9 | h9; exact hs h9; omega)).trans (h.block k hk hs)⟩
theorem KpS.set {S : Nat → Prop} {W w1 : World} (h : KpS S W w1) {a : Addr} (v : Value) (ha : S a.block ∨ W.heap.size ≤ a.block) : KpS S W (w1.setCell a v) :=
  ⟨h.os, h.tape, h.output, by simpa using h.size, fun k hk hs => (heap_setNe (fun e => by rcases ha with h9 | h9; exact hs (e ▸ h9); omega)).trans (h.block k hk hs)⟩
theorem KpS.drew {S : Nat → Prop} {W w1 : World} (h : KpS S W w1) : KpS S W w1.drew := ⟨h.os, h.tape, h.output, h.size, h.block⟩
theorem KpS.mono {S S' : Nat → Prop} {W w1 : World} (h : KpS S W w1) (hs : ∀ k, S k → S' k) : KpS S' W w1 := ⟨h.os, h.tape, h.output, h.size, fun k hk h9 => h.block k hk fun h8 => h9 (hs k h8)⟩
theorem KpS.toBelow {S : Nat → Prop} {B : Nat} {W w1 : World} (h : KpS S W w1) (hB : B ≤ W.heap.size) (hs : ∀ k, S k → B ≤ k) : Below B W w1 := ⟨h.os, h.tape, h.output, h.size, fun k hk => h.block k (by omega) fun h9 => by have := hs k h9; omega⟩

theorem rowMono {w : World} {base base' : Nat} {e : TypeId} {size : Nat} {v : Value} {n : Nat} {xs : List Value} (h : w.ownsRow base e size v n xs) (hb : base' ≤ base) : w.ownsRow base' e size v n xs := by
  obtain ⟨h1, h2⟩ := h
  refine ⟨h1, ?_⟩
  rcases h2 with h2 | ⟨g, cap, cur, hv, hg, r⟩
  · exact .inl h2
  · exact .inr ⟨g, cap, cur, hv, Nat.le_trans hb hg, r⟩

section
variable {P : Program} {ops : Array Oper} {o : Oper} {a : Act} {K : Act → World → Prop} {Q : Exit → Act → World → Prop} {E0 : Prop}
/-- append(v, x) inside a region that draws; the block told -/
theorem step_append1E {t e e' : TypeId} {size bytes : Nat} {fr : Nat × Nat} (E : ElemOK P t e size bytes) (base : Nat) {v : Value} {n : Nat} {xs : List Value} {w : World} (hown : w.ownsRow base e size v n xs) (us : List Value) (hus : us.length = size) (h1 : ∀ u ∈ us, u.oneCell' = true)
    (hgd : o.guard = none) (s x : Operand) (ho : o.op = .call { callee := .builtin .append, args := #[s, x], argTypes := #[t, t] }) (hs : a.eval s = v) (g0 : Nat) (hx : a.eval x = .slice (some ⟨g0, 0, none⟩) 1 1) (hg0 : w.heap[g0]? = some (Obj.cells us.toArray e' fr))
    (h63 : n + 1 ≤ maxLen) (hbytes : (n + 1) * bytes ≤ 140737488355328) (hbase : base ≤ w.heap.size)
    (h : ∀ g cap w', w'.ownsRow base e size (.slice (some ⟨g, 0, none⟩) (n + 1) cap) (n + 1) (xs ++ us) → w.grownBy w' v.ownBlock → (v.ownBlock = some g ∨ g = w.heap.size) → g < w'.heap.size → K (a.put o.dst (.slice (some ⟨g, 0, none⟩) (n + 1) cap)) w') :
    if Region.wanted o (yielded ops a.tmps) = true then Oper.wp P o a w K Q else E0 := by
  obtain ⟨ht, ⟨i, z, hi, hz, hsize, hby, hzs⟩, hsz⟩ := E
  exact step_append_lies w hgd s x t ho base e i z size bytes ht hi hz hsize hby hzs hsz v n xs hs hown ⟨g0, 0, none⟩ 1 1 us hx (by omega) (World.news_of_block (cs := us.toArray) hg0) h1 (by decide) h63 hbytes hbase w.heap.size rfl h

/-- a call inside a region that draws, by its contract -/
theorem step_call {f : FuncId} {w : World} {vals : Array Value} {R : Ending → World → Prop} (hen : ∀ args w, (callFunc f args).run P w = .ok (.enter f args) w) (hgd : o.guard = none) (args : Array Operand) (tys : Array TypeId) (ho : o.op = .call { callee := .value (.func f), args := args, argTypes := tys }) (hargs0 : vals = (args.toList.map a.eval).toArray)
    (C : Calls P f vals w R) (h : ∀ e w', R e w' → ∃ v, e = .returned v ∧ K (a.put o.dst v) w') :
    if Region.wanted o (yielded ops a.tmps) = true then Oper.wp P o a w K Q else E0 := by
  have hw : Region.wanted o (yielded ops a.tmps) = true := by simp [Region.wanted, hgd]
  rw [if_pos hw]
  unfold Oper.wp
  have hargs : args.map a.eval = vals := by rw [hargs0, ← Array.toList_map]
  have he : (execOp a.eval o).run P w = .ok (.enter f vals) w := by
    simp [execOp, ho, resolve, invoke, hargs, Act.eval, Deferred.ofValue, hen]
  rw [he, Oper.upon_enter]
  refine C.mono fun e w' hr => ?_
  obtain ⟨v, rfl, hk⟩ := h e w' hr
  exact hk
end

theorem KpS.alloc {S : Nat → Prop} {W w1 : World} (h : KpS S W w1) (o : Obj) : KpS S W (w1.alloc o) := h.below ((Below.refl _ _).alloc (Nat.le_refl _) _)
theorem rowK {S : Nat → Prop} {W W' : World} {base : Nat} {e : TypeId} {sz : Nat} {v : Value} {n : Nat} {xs : List Value} (h : W.ownsRow base e sz v n xs) (K : KpS S W W') (hS : ∀ gb, v.ownBlock = some gb → ¬ S gb) : W'.ownsRow base e sz v n xs :=
  owns_sameH h fun gb e => K.block gb (h.lt gb e).2 (hS gb e)
theorem blkK {S : Nat → Prop} {W W' : World} (K : KpS S W W') {b : Nat} {o : Obj} (h : W.heap[b]? = some o) (hS : ¬ S b) : W'.heap[b]? = some o := (K.block b (Array.getElem?_eq_some_iff.1 h).1 hS).trans h
theorem cellK {S : Nat → Prop} {W W' : World} (K : KpS S W W') {b : Nat} (hb : b < W.heap.size) (hS : ¬ S b) : (∀ o, W'.cell? ⟨b, o, none⟩ = W.cell? ⟨b, o, none⟩) ∧ (∀ o, W'.frozen? ⟨b, o, none⟩ = W.frozen? ⟨b, o, none⟩) :=
  ⟨fun o => World.cell?_of_block (K.block b hb hS), fun o => World.frozen?_of_block (K.block b hb hS)⟩

theorem lit0 (w : World) (o : Obj) : (w.alloc o).heap[w.heap.size]? = some o := World.alloc_heap_new w o
theorem lit1 (w : World) (o o2 : Obj) : ((w.alloc o).alloc o2).heap[w.heap.size]? = some o := (Below.heap_alloc _ _ _ (by simp)).trans (lit0 w o)
theorem lit2 (w : World) (o o2 : Obj) : ((w.alloc o).alloc o2).heap[w.heap.size + 1]? = some o2 := by
  have := lit0 (w.alloc o) o2
  rwa [show (w.alloc o).heap.size = w.heap.size + 1 by simp] at this
theorem lit0d (w : World) (o : Obj) : (w.alloc o).drew.heap[w.heap.size]? = some o := lit0 w o
theorem lit1d (w : World) (o o2 : Obj) : ((w.alloc o).alloc o2).drew.heap[w.heap.size]? = some o := lit1 w o o2
theorem lit2d (w : World) (o o2 : Obj) : ((w.alloc o).alloc o2).drew.heap[w.heap.size + 1]? = some o2 := lit2 w o o2

section
variable {W : World} {base : Nat}
theorem row_ne {e t : TypeId} {sz k X : Nat} {v : Value} {xs : List Value} {cs : Array Value} {fr : Nat × Nat} (h : W.ownsRow base e sz v k xs) (hX : W.heap[X]? = some (Obj.cells cs t fr)) (hte : t ≠ e) : ∀ gb, v.ownBlock = some gb → X ≠ gb := by
  rintro gb he rfl
  rcases h.2 with ⟨rfl, _⟩ | ⟨g, cap, cur, rfl, _, hh, _⟩
  · cases he
  · simp only [Value.ownBlock, Option.some.injEq] at he
    subst he
    rw [hX] at hh
    injection hh with hh
    injection hh with _ hh _
    exact hte hh

theorem blk_ne {X Y : Nat} {cs cs' : Array Value} {t t' : TypeId} {fr fr' : Nat × Nat} (hX : W.heap[X]? = some (Obj.cells cs t fr)) (hY : W.heap[Y]? = some (Obj.cells cs' t' fr')) (h : t ≠ t') : X ≠ Y := by
  rintro rfl
  rw [hX] at hY
  injection hY with hY
  injection hY with _ hY _
  exact h hY

/-- rows of unlike types lie in unlike blocks -/
theorem rows_ne {base1 base2 : Nat} {e e' : TypeId} {sz sz' k k' : Nat} {v v' : Value} {xs xs' : List Value} (h : W.ownsRow base1 e sz v k xs) (h' : W.ownsRow base2 e' sz' v' k' xs') (hte : e ≠ e') : ∀ gb, v.ownBlock = some gb → v'.ownBlock ≠ some gb := by
  intro gb he he'
  rcases h'.2 with ⟨rfl, _⟩ | ⟨g, cap, cur, rfl, _, hh, _⟩
  · cases he'
  · simp only [Value.ownBlock, Option.some.injEq] at he'
    subst he'
    exact row_ne h hh (Ne.symm hte) _ he rfl

theorem KpS.strip {S : Nat → Prop} {w1 : World} (h : KpS (fun k => S k ∨ W.heap.size ≤ k) W w1) : KpS S W w1 := ⟨h.os, h.tape, h.output, h.size, fun k hk hn => h.block k hk fun h9 => by rcases h9 with h9 | h9; exact hn h9; omega⟩

end

end Go.Proofs.YtggfdlanobndjaaGreat

/- slices.Sort at uint32, of a row that the call owns. -/
namespace Go.Proofs.YtggfdlanobndjaaGreat
open Go.RowKit Go.Sort Go.Shelf Go.Lib Go.Maps
set_option linter.unusedSimpArgs false
set_option linter.unusedVariables false

/-- names, rising -/
def srtI (l : List Int) : List Int := l.mergeSort fun x y => decide (x ≤ y)
theorem srtI_len (l : List Int) : (srtI l).length = l.length := (List.mergeSort_perm l _).length_eq

theorem sortU32 {w : World} {base n : Nat} {v : Value} {l : List Int} (h : w.ownsRow base 32 1 v n (l.map (Value.int .u32))) (hn : n ≤ 1000000) :
    Calls Tryz.prog 60 #[v] w fun e w' => e = .returned (.tuple #[]) ∧ w'.ownsRow base 32 1 v n ((srtI l).map (Value.int .u32)) ∧ KpS (fun k => v.ownBlock = some k) w w' := by
  have hl : l.length = n := by have := h.1; simpa using this
  obtain ⟨h1, h2⟩ := h
  rcases h2 with ⟨rfl, h0⟩ | ⟨g, cap, cur, rfl, hg, hh, hc, hm, hs, ht⟩
  · subst h0
    refine (sort32_none none 0 w).mono ?_
    rintro e w' ⟨rfl, rfl⟩
    have : l = [] := List.eq_nil_of_length_eq_zero hl
    subst this
    exact ⟨rfl, by simpa [srtI] using World.ownsRow_nil w' base 32 1, KpS.refl _ _⟩
  · subst hl
    rw [Nat.mul_one] at ht
    have hlt : g < w.heap.size := (Array.getElem?_eq_some_iff.1 hh).1
    refine (sort32 g 0 cap l w (holds_of_block hh ht) hlt (by omega)).mono ?_
    rintro e w' ⟨rfl, q, os, rfl⟩
    obtain ⟨cur', -, -, -, h9⟩ := owns_putRow (l' := srtI l) hg hh (by omega) hm (by omega) (srtI_len l) q os
    rw [srtI_len] at h9
    refine ⟨rfl, h9, rfl, rfl, rfl, ?_, fun k hk hn => ?_⟩
    · show w.heap.size ≤ ((w.heap.modify g _) ++ os).size
      simp
    · have hne : g ≠ k := fun e => hn (by rw [e]; rfl)
      show ((w.heap.modify g _) ++ os)[k]? = _
      rw [Array.getElem?_append_left (by simp; omega), Array.getElem?_modify, if_neg hne]
end Go.Proofs.YtggfdlanobndjaaGreat

/- The plain law of the frame: a tree over places, its nodes in a row, the nodes of a range, the way to a leaf. No function of the program is walked here. -/
set_option autoImplicit false
namespace Go.Proofs.YtggfdlanobndjaaGreat
open Go

/-- the frame's tree: a leaf is a place; a node has two kids -/
inductive FT where
  | leaf (a : Nat)
  | node (l r : FT)

namespace FT
def lo : FT → Nat
  | leaf a => a
  | node l _ => l.lo
def hi : FT → Nat
  | leaf a => a + 1
  | node _ r => r.hi
def size : FT → Nat
  | leaf _ => 1
  | node l r => l.size + r.size + 1
def ht : FT → Nat
  | leaf _ => 0
  | node l r => max l.ht r.ht + 1
/-- the leaves lie one beside the other -/
def wf : FT → Prop
  | leaf _ => True
  | node l r => l.wf ∧ r.wf ∧ l.hi = r.lo
theorem size_pos (t : FT) : 0 < t.size := by cases t <;> simp [size]
theorem lo_hi : ∀ (t : FT), t.wf → t.lo < t.hi
  | leaf a, _ => by simp [lo, hi]
  | node l r, h => by
    have h1 := lo_hi l h.1
    have h2 := lo_hi r h.2.1
    have h3 := h.2.2
    simp only [lo, hi]
    omega
theorem size_eq : ∀ (t : FT), t.wf → t.size + 1 = 2 * (t.hi - t.lo)
  | leaf a, _ => by simp only [size, lo, hi]; omega
  | node l r, h => by
    have h1 := size_eq l h.1
    have h2 := size_eq r h.2.1
    have h3 := h.2.2
    have h4 := lo_hi l h.1
    have h5 := lo_hi r h.2.1
    simp only [size, lo, hi]
    omega
end FT

/-- the tree over so many leaves, from one on: the right half is the lesser one -/
def mkT (a n : Nat) : FT :=
  if h : n ≤ 1 then .leaf a else .node (mkT a (n - n / 2)) (mkT (a + (n - n / 2)) (n / 2))
termination_by n
decreasing_by all_goals omega
theorem mkT_one (a n : Nat) (h : n ≤ 1) : mkT a n = .leaf a := by rw [mkT, dif_pos h]
theorem mkT_two (a n : Nat) (h : 1 < n) : mkT a n = .node (mkT a (n - n / 2)) (mkT (a + (n - n / 2)) (n / 2)) := by rw [mkT, dif_neg (by omega)]

theorem mkT_spec (a n : Nat) (h : 0 < n) : (mkT a n).wf ∧ (mkT a n).lo = a ∧ (mkT a n).hi = a + n := by
  induction n using Nat.strongRecOn generalizing a with
  | ind n ih =>
    by_cases h1 : n ≤ 1
    · rw [mkT_one a n h1]
      exact ⟨trivial, rfl, by simp only [FT.hi]; omega⟩
    · rw [mkT_two a n (by omega)]
      obtain ⟨w1, l1, r1⟩ := ih (n - n / 2) (by omega) a (by omega)
      obtain ⟨w2, l2, r2⟩ := ih (n / 2) (by omega) (a + (n - n / 2)) (by omega)
      exact ⟨⟨w1, w2, by rw [r1, l2]⟩, l1, by simp only [FT.hi]; rw [r2]; omega⟩

theorem mkT_size (a n : Nat) (h : 0 < n) : (mkT a n).size = 2 * n - 1 := by
  obtain ⟨w, l, r⟩ := mkT_spec a n h
  have := FT.size_eq _ w
  omega

/-- no higher than 1 is doubled to come to n -/
theorem mkT_ht (a n k : Nat) (h : n ≤ 2 ^ k) : (mkT a n).ht ≤ k := by
  induction k generalizing a n with
  | zero => rw [mkT_one a n (by simpa using h)]; exact Nat.le_refl _
  | succ k ih =>
    by_cases h1 : n ≤ 1
    · rw [mkT_one a n h1]; exact Nat.zero_le _
    · rw [mkT_two a n (by omega)]
      rw [Nat.pow_succ] at h
      have i1 := ih a (n - n / 2) (by omega)
      have i2 := ih (a + (n - n / 2)) (n / 2) (by omega)
      simp only [FT.ht]
      omega

/-- a node: its kind, kids, leaves, item -/
structure Nd where
  kind : Int
  l : Int
  r : Int
  fr : Int
  til : Int
  item : Int

namespace FT
/-- the nodes in the order in which they are put, from place s on; the root is the last one -/
def nodes : FT → Nat → List Nd
  | leaf a, _ => [⟨1, -1, -1, a, (a : Int) + 1, a⟩]
  | node l r, s => l.nodes s ++ r.nodes (s + l.size) ++ [⟨2, ((s + l.size : Nat) : Int) - 1, ((s + l.size + r.size : Nat) : Int) - 1, l.lo, r.hi, 0⟩]
theorem nodes_len : ∀ (t : FT) (s : Nat), (t.nodes s).length = t.size
  | leaf a, _ => rfl
  | node l r, s => by
    simp only [nodes, size, List.length_append, nodes_len l, nodes_len r, List.length_cons, List.length_nil]

/-- a tree stands in the row of nodes from place s on -/
def At (N : List Nd) (t : FT) (s : Nat) : Prop := ∃ A B, N = A ++ t.nodes s ++ B ∧ A.length = s
theorem At.left {N : List Nd} {l r : FT} {s : Nat} (h : At N (node l r) s) : At N l s := by
  obtain ⟨A, B, e, hA⟩ := h
  exact ⟨A, r.nodes (s + l.size) ++ ([⟨2, ((s + l.size : Nat) : Int) - 1, ((s + l.size + r.size : Nat) : Int) - 1, l.lo, r.hi, 0⟩] ++ B), by rw [e, nodes]; simp only [List.append_assoc], hA⟩
theorem At.right {N : List Nd} {l r : FT} {s : Nat} (h : At N (node l r) s) : At N r (s + l.size) := by
  obtain ⟨A, B, e, hA⟩ := h
  exact ⟨A ++ l.nodes s, [⟨2, ((s + l.size : Nat) : Int) - 1, ((s + l.size + r.size : Nat) : Int) - 1, l.lo, r.hi, 0⟩] ++ B, by rw [e, nodes]; simp only [List.append_assoc], by rw [List.length_append, nodes_len, hA]⟩

/-- the root of a tree -/
def root (t : FT) (s : Nat) : Nat := s + t.size - 1
def top : FT → Nat → Nd
  | leaf a, _ => ⟨1, -1, -1, a, (a : Int) + 1, a⟩
  | node l r, s => ⟨2, ((s + l.size : Nat) : Int) - 1, ((s + l.size + r.size : Nat) : Int) - 1, l.lo, r.hi, 0⟩
theorem top_fr (t : FT) (s : Nat) : (t.top s).fr = t.lo := by cases t <;> rfl
theorem top_to (t : FT) (s : Nat) : (t.top s).til = t.hi := by cases t <;> simp [top, hi]
theorem nodes_last : ∀ (t : FT) (s : Nat), ∃ P, t.nodes s = P ++ [t.top s] ∧ P.length + 1 = t.size
  | leaf a, s => ⟨[], rfl, rfl⟩
  | node l r, s => ⟨l.nodes s ++ r.nodes (s + l.size), rfl, by simp only [List.length_append, nodes_len, size]⟩
theorem At.get {N : List Nd} {t : FT} {s : Nat} (h : At N t s) : N[t.root s]? = some (t.top s) := by
  obtain ⟨A, B, e, hA⟩ := h
  obtain ⟨P, hP, hl⟩ := nodes_last t s
  unfold root
  rw [e, hP, List.append_assoc, List.append_assoc, List.getElem?_append_right (by omega), List.getElem?_append_right (by omega)]
  have : s + t.size - 1 - A.length - P.length = 0 := by omega
  rw [this]
  rfl
theorem At.lt {N : List Nd} {t : FT} {s : Nat} (h : At N t s) : t.root s < N.length := (List.getElem?_eq_some_iff.1 h.get).1

/-- the nodes that make up the leaves from a, ahead of b; how many are entered -/
def canon : FT → Nat → Nat → Nat → List Nat × Nat
  | t@(leaf _), s, a, b => if t.hi ≤ a ∨ b ≤ t.lo then ([], 1) else ([t.root s], 1)
  | t@(node l r), s, a, b => if t.hi ≤ a ∨ b ≤ t.lo then ([], 1) else if a ≤ t.lo ∧ t.hi ≤ b then ([t.root s], 1) else ((l.canon s a b).1 ++ (r.canon (s + l.size) a b).1, (l.canon s a b).2 + (r.canon (s + l.size) a b).2 + 1)

theorem canon_out {t : FT} {s a b : Nat} (h : t.hi ≤ a ∨ b ≤ t.lo) : t.canon s a b = ([], 1) := by
  cases t <;> (rw [canon, if_pos h])
theorem canon_in {t : FT} {s a b : Nat} (h0 : ¬ (t.hi ≤ a ∨ b ≤ t.lo)) (h : a ≤ t.lo ∧ t.hi ≤ b) : t.canon s a b = ([t.root s], 1) := by
  cases t with
  | leaf x => rw [canon, if_neg h0]
  | node l r => rw [canon, if_neg h0, if_pos h]
theorem canon_part {l r : FT} {s a b : Nat} (h0 : ¬ ((node l r).hi ≤ a ∨ b ≤ (node l r).lo)) (h : ¬ (a ≤ (node l r).lo ∧ (node l r).hi ≤ b)) : (node l r).canon s a b = ((l.canon s a b).1 ++ (r.canon (s + l.size) a b).1, (l.canon s a b).2 + (r.canon (s + l.size) a b).2 + 1) := by
  rw [canon, if_neg h0, if_neg h]

theorem canon_all {t : FT} {s a b : Nat} (h : a ≤ t.lo ∧ t.hi ≤ b) : (t.canon s a b).2 = 1 := by
  by_cases h0 : t.hi ≤ a ∨ b ≤ t.lo
  · rw [canon_out h0]
  · rw [canon_in h0 h]
/-- open at one end: so many are entered -/
theorem canon_end (t : FT) (hw : t.wf) (s a b : Nat) (h : a ≤ t.lo ∨ t.hi ≤ b) : (t.canon s a b).2 ≤ 2 * t.ht + 1 := by
  induction t generalizing s with
  | leaf x =>
    rw [canon]
    split <;> simp [ht]
  | node l r il ir =>
    by_cases h0 : (node l r).hi ≤ a ∨ b ≤ (node l r).lo
    · rw [canon_out h0]; simp
    · by_cases h1 : a ≤ (node l r).lo ∧ (node l r).hi ≤ b
      · rw [canon_in h0 h1]; simp
      · rw [canon_part h0 h1]
        simp only [ht]
        obtain ⟨w1, w2, e⟩ := hw
        have q1 := lo_hi l w1
        have q2 := lo_hi r w2
        simp only [lo, hi] at h h0 h1
        rcases h with h | h
        · have hr := ir w2 (s + l.size) (.inl (by omega))
          have hl := il w1 s (.inl h)
          by_cases hb : l.hi ≤ b
          · have := canon_all (t := l) (s := s) (a := a) (b := b) ⟨h, hb⟩
            omega
          · have := canon_out (t := r) (s := s + l.size) (a := a) (b := b) (.inr (by omega))
            rw [this]
            show (l.canon s a b).2 + 1 + 1 ≤ _
            omega
        · have hr := ir w2 (s + l.size) (.inr h)
          have hl := il w1 s (.inr (by omega))
          by_cases ha : a ≤ r.lo
          · have := canon_all (t := r) (s := s + l.size) (a := a) (b := b) ⟨ha, h⟩
            omega
          · have := canon_out (t := l) (s := s) (a := a) (b := b) (.inl (by omega))
            rw [this]
            show 1 + (r.canon (s + l.size) a b).2 + 1 ≤ _
            omega

theorem canon_cost (t : FT) (hw : t.wf) (s a b : Nat) : (t.canon s a b).2 ≤ 4 * t.ht + 1 := by
  induction t generalizing s with
  | leaf x =>
    rw [canon]
    split <;> simp [ht]
  | node l r il ir =>
    by_cases h0 : (node l r).hi ≤ a ∨ b ≤ (node l r).lo
    · rw [canon_out h0]; simp
    · by_cases h1 : a ≤ (node l r).lo ∧ (node l r).hi ≤ b
      · rw [canon_in h0 h1]; simp
      · rw [canon_part h0 h1]
        simp only [ht]
        obtain ⟨w1, w2, e⟩ := hw
        have q1 := lo_hi l w1
        have q2 := lo_hi r w2
        simp only [lo, hi] at h0 h1
        by_cases hb : b ≤ r.lo
        · have := canon_out (t := r) (s := s + l.size) (a := a) (b := b) (.inr hb)
          rw [this]
          have := il w1 s
          show (l.canon s a b).2 + 1 + 1 ≤ _
          omega
        · by_cases ha : l.hi ≤ a
          · have := canon_out (t := l) (s := s) (a := a) (b := b) (.inl ha)
            rw [this]
            have := ir w2 (s + l.size)
            show 1 + (r.canon (s + l.size) a b).2 + 1 ≤ _
            omega
          · have h2 := canon_end l w1 s a b (.inr (by omega))
            have h3 := canon_end r w2 (s + l.size) a b (.inl (by omega))
            show (l.canon s a b).2 + (r.canon (s + l.size) a b).2 + 1 ≤ _
            omega

/-- from the root to a leaf -/
def path : FT → Nat → Nat → List Nat
  | leaf _, s, _ => [s]
  | node l r, s, x => (node l r).root s :: (if x < l.hi then l.path s x else r.path (s + l.size) x)
theorem path_len : ∀ (t : FT) (s x : Nat), (t.path s x).length ≤ t.ht + 1
  | leaf _, _, _ => Nat.le_refl _
  | node l r, s, x => by
    have h1 := path_len l s x
    have h2 := path_len r (s + l.size) x
    simp only [path, ht, List.length_cons]
    split <;> omega
theorem path_head (t : FT) (s x : Nat) : ∃ P, t.path s x = t.root s :: P := by
  cases t with
  | leaf a => exact ⟨[], by simp [path, root, size]⟩
  | node l r => exact ⟨_, rfl⟩
end FT
end Go.Proofs.YtggfdlanobndjaaGreat

/- The plain law of the cascade: lists of places by Y, bridges, what going down tells and what it enters. No function of the program is walked here. -/
set_option autoImplicit false
namespace Go.Proofs.YtggfdlanobndjaaGreat
open Go


/-! The cascade's lists: places of the row, by Y. -/
/-- of these places those of a tree -/
def nl (YS : List Nat) (t : FT) : List Nat := YS.filter fun i => decide (t.lo ≤ i ∧ i < t.hi)
/-- those between two numbers -/
def btw (yv : Nat → Int) (y1 y2 : Int) (L : List Nat) : List Nat := L.filter fun i => decide (y1 ≤ yv i ∧ yv i ≤ y2)
def below (yv : Nat → Int) (y : Int) (L : List Nat) : Nat := L.countP fun i => decide (yv i < y)
def upto (yv : Nat → Int) (y : Int) (L : List Nat) : Nat := L.countP fun i => decide (yv i ≤ y)

theorem nl_left (YS : List Nat) (l r : FT) (hw : (FT.node l r).wf) : nl YS l = (nl YS (.node l r)).filter fun i => decide (i < l.hi) := by
  unfold nl
  rw [List.filter_filter]
  have h2 := FT.lo_hi r hw.2.1
  have h3 := hw.2.2
  refine List.filter_congr fun i _ => ?_
  have e1 : (FT.node l r).lo = l.lo := rfl
  have e2 : (FT.node l r).hi = r.hi := rfl
  rw [Bool.eq_iff_iff, e1, e2, Bool.and_eq_true, decide_eq_true_eq, decide_eq_true_eq, decide_eq_true_eq]
  exact ⟨fun h => ⟨by omega, by omega⟩, fun h => by omega⟩
theorem nl_right (YS : List Nat) (l r : FT) (hw : (FT.node l r).wf) : nl YS r = (nl YS (.node l r)).filter fun i => !decide (i < l.hi) := by
  unfold nl
  rw [List.filter_filter]
  have h1 := FT.lo_hi l hw.1
  have h3 := hw.2.2
  refine List.filter_congr fun i _ => ?_
  have e1 : (FT.node l r).lo = l.lo := rfl
  have e2 : (FT.node l r).hi = r.hi := rfl
  rw [Bool.eq_iff_iff, e1, e2, Bool.and_eq_true, decide_eq_true_eq, decide_eq_true_eq, Bool.not_eq_true', decide_eq_false_iff_not]
  exact ⟨fun h => ⟨by omega, by omega⟩, fun h => by omega⟩

/-- in a list that rises those below stand ahead -/
theorem take_filter {p : Nat → Bool} : ∀ (L : List Nat), L.Pairwise (fun i k => p k = true → p i = true) → L.take (L.countP p) = L.filter p
  | [], _ => rfl
  | i :: L, h => by
    rw [List.pairwise_cons] at h
    cases hp : p i with
    | true =>
      rw [List.countP_cons_of_pos hp, List.take_succ_cons, List.filter_cons_of_pos hp, take_filter L h.2]
    | false =>
      have h0 : ∀ k ∈ L, p k = false := fun k hk => by
        cases hk2 : p k with
        | false => rfl
        | true => have := h.1 k hk hk2; rw [hp] at this; cases this
      have h1 : L.countP p = 0 := List.countP_eq_zero.2 fun k hk => by rw [h0 k hk]; decide
      have h2 : L.filter p = [] := List.filter_eq_nil_iff.2 fun k hk => by rw [h0 k hk]; decide
      rw [List.countP_cons_of_neg (by rw [hp]; decide), h1, List.filter_cons_of_neg (by rw [hp]; decide), h2]
      rfl

theorem take_below {yv : Nat → Int} {L : List Nat} (hs : L.Pairwise fun i k => yv i ≤ yv k) (y : Int) : L.take (below yv y L) = L.filter fun i => decide (yv i < y) :=
  take_filter L (hs.imp fun h h2 => by simp only [decide_eq_true_eq] at *; omega)
theorem take_upto {yv : Nat → Int} {L : List Nat} (hs : L.Pairwise fun i k => yv i ≤ yv k) (y : Int) : L.take (upto yv y L) = L.filter fun i => decide (yv i ≤ y) :=
  take_filter L (hs.imp fun h h2 => by simp only [decide_eq_true_eq] at *; omega)

theorem drop_filter {p : Nat → Bool} (L : List Nat) (h : L.Pairwise fun i k => p k = true → p i = true) : L.drop (L.countP p) = L.filter fun i => !p i := by
  induction L with
  | nil => rfl
  | cons i L ih =>
    rw [List.pairwise_cons] at h
    cases hp : p i with
    | true =>
      rw [List.countP_cons_of_pos hp, List.drop_succ_cons, List.filter_cons_of_neg (by rw [hp]; decide), ih h.2]
    | false =>
      have h0 : ∀ k ∈ L, p k = false := fun k hk => by
        cases hk2 : p k with
        | false => rfl
        | true => have := h.1 k hk hk2; rw [hp] at this; cases this
      have h1 : L.countP p = 0 := List.countP_eq_zero.2 fun k hk => by rw [h0 k hk]; decide
      rw [List.countP_cons_of_neg (by rw [hp]; decide), h1, List.drop_zero, List.filter_eq_self.2]
      intro k hk
      rcases List.mem_cons.1 hk with rfl | hk
      · rw [hp]; rfl
      · rw [h0 k hk]; rfl

/-- between both counts stand those between both numbers -/
theorem slice_btw {yv : Nat → Int} {L : List Nat} (hs : L.Pairwise fun i k => yv i ≤ yv k) (y1 y2 : Int) (h : y1 ≤ y2) : (L.take (upto yv y2 L)).drop (below yv y1 L) = btw yv y1 y2 L := by
  rw [take_upto hs]
  have e : below yv y1 L = below yv y1 (L.filter fun i => decide (yv i ≤ y2)) := by
    unfold below
    rw [List.countP_filter]
    refine List.countP_congr fun i _ => ?_
    simp only [Bool.and_eq_true, decide_eq_true_eq]
    omega
  rw [e]
  unfold below
  rw [drop_filter _ ((hs.filter _).imp fun h h2 => by simp only [decide_eq_true_eq] at *; omega), List.filter_filter]
  unfold btw
  refine List.filter_congr fun i _ => ?_
  simp only [← decide_not, ← Bool.decide_and, decide_eq_decide]
  omega

theorem below_le {yv : Nat → Int} {L : List Nat} {y1 y2 : Int} (h : y1 ≤ y2) : below yv y1 L ≤ upto yv y2 L := by
  unfold below upto
  exact List.countP_mono_left fun i _ h2 => by simp only [decide_eq_true_eq] at *; omega
theorem upto_len {yv : Nat → Int} {L : List Nat} {y : Int} : upto yv y L ≤ L.length := List.countP_le_length
theorem below_len {yv : Nat → Int} {L : List Nat} {y : Int} : below yv y L ≤ L.length := List.countP_le_length
theorem btw_len {yv : Nat → Int} {L : List Nat} (hs : L.Pairwise fun i k => yv i ≤ yv k) (y1 y2 : Int) (h : y1 ≤ y2) : (btw yv y1 y2 L).length + below yv y1 L = upto yv y2 L := by
  rw [← slice_btw hs y1 y2 h, List.length_drop, List.length_take]
  have h1 := below_le (yv := yv) (L := L) h
  have h2 := upto_len (yv := yv) (L := L) (y := y2)
  omega

/-- of those ahead of each place how many are below a place of the row -/
def lf (m : Nat) (L : List Nat) : List Int := (List.range (L.length + 1)).map fun j => (((L.take j).countP fun i => decide (i < m) : Nat) : Int)
theorem lf_len (m : Nat) (L : List Nat) : (lf m L).length = L.length + 1 := by simp [lf]
theorem lf_get (m : Nat) (L : List Nat) (j : Nat) (h : j < (lf m L).length) : (lf m L)[j] = (((L.take j).countP fun i => decide (i < m) : Nat) : Int) := by simp [lf]

/-- bridges: a count at a node is told of its left kid -/
theorem bridge_below {YS : List Nat} {yv : Nat → Int} (l r : FT) (hw : (FT.node l r).wf) (hs : YS.Pairwise fun i k => yv i ≤ yv k) (y : Int) :
    ((nl YS (.node l r)).take (below yv y (nl YS (.node l r)))).countP (fun i => decide (i < l.hi)) = below yv y (nl YS l) ∧ below yv y (nl YS l) + below yv y (nl YS r) = below yv y (nl YS (.node l r)) := by
  have hs2 : (nl YS (.node l r)).Pairwise fun i k => yv i ≤ yv k := hs.filter _
  rw [take_below hs2, nl_left YS l r hw, nl_right YS l r hw]
  generalize nl YS (.node l r) = L
  unfold below
  constructor
  · rw [List.countP_filter, List.countP_filter]
    refine List.countP_congr fun i _ => ?_
    simp only [Bool.and_eq_true]
    exact And.comm
  · induction L with
    | nil => rfl
    | cons i L ih =>
      simp only [List.filter_cons, List.countP_cons]
      by_cases h : i < l.hi <;> simp only [h, decide_true, decide_false, Bool.not_true, Bool.not_false, if_true, if_false, Bool.false_eq_true, List.countP_cons] <;> omega
theorem bridge_upto {YS : List Nat} {yv : Nat → Int} (l r : FT) (hw : (FT.node l r).wf) (hs : YS.Pairwise fun i k => yv i ≤ yv k) (y : Int) :
    ((nl YS (.node l r)).take (upto yv y (nl YS (.node l r)))).countP (fun i => decide (i < l.hi)) = upto yv y (nl YS l) ∧ upto yv y (nl YS l) + upto yv y (nl YS r) = upto yv y (nl YS (.node l r)) := by
  have hs2 : (nl YS (.node l r)).Pairwise fun i k => yv i ≤ yv k := hs.filter _
  rw [take_upto hs2, nl_left YS l r hw, nl_right YS l r hw]
  generalize nl YS (.node l r) = L
  unfold upto
  constructor
  · rw [List.countP_filter, List.countP_filter]
    refine List.countP_congr fun i _ => ?_
    simp only [Bool.and_eq_true]
    exact And.comm
  · induction L with
    | nil => rfl
    | cons i L ih =>
      simp only [List.filter_cons, List.countP_cons]
      by_cases h : i < l.hi <;> simp only [h, decide_true, decide_false, Bool.not_true, Bool.not_false, if_true, if_false, Bool.false_eq_true, List.countP_cons] <;> omega

/-- what going down tells, and how many nodes it enters -/
def down (YS : List Nat) (yv : Nat → Int) (y1 y2 : Int) (fr tu : Nat) : FT → List Nat × Nat
  | t@(.leaf _) => if upto yv y2 (nl YS t) ≤ below yv y1 (nl YS t) ∨ t.hi ≤ fr ∨ tu ≤ t.lo then ([], 1) else (btw yv y1 y2 (nl YS t), 1)
  | t@(.node l r) => if upto yv y2 (nl YS t) ≤ below yv y1 (nl YS t) ∨ t.hi ≤ fr ∨ tu ≤ t.lo then ([], 1) else if fr ≤ t.lo ∧ t.hi ≤ tu then (btw yv y1 y2 (nl YS t), 1) else ((down YS yv y1 y2 fr tu l).1 ++ (down YS yv y1 y2 fr tu r).1, 1 + (down YS yv y1 y2 fr tu l).2 + (down YS yv y1 y2 fr tu r).2)

section
variable {YS : List Nat} {yv : Nat → Int} {y1 y2 : Int} {fr tu : Nat}
theorem down_out {t : FT} (h : upto yv y2 (nl YS t) ≤ below yv y1 (nl YS t) ∨ t.hi ≤ fr ∨ tu ≤ t.lo) : down YS yv y1 y2 fr tu t = ([], 1) := by
  cases t <;> (rw [down, if_pos h])
theorem down_in {t : FT} (h : ¬ (upto yv y2 (nl YS t) ≤ below yv y1 (nl YS t) ∨ t.hi ≤ fr ∨ tu ≤ t.lo)) (h2 : fr ≤ t.lo ∧ t.hi ≤ tu) : down YS yv y1 y2 fr tu t = (btw yv y1 y2 (nl YS t), 1) := by
  cases t with
  | leaf a => rw [down, if_neg h]
  | node l r => rw [down, if_neg h, if_pos h2]
theorem down_part {l r : FT} (h : ¬ (upto yv y2 (nl YS (.node l r)) ≤ below yv y1 (nl YS (.node l r)) ∨ (FT.node l r).hi ≤ fr ∨ tu ≤ (FT.node l r).lo)) (h2 : ¬ (fr ≤ (FT.node l r).lo ∧ (FT.node l r).hi ≤ tu)) : down YS yv y1 y2 fr tu (.node l r) = ((down YS yv y1 y2 fr tu l).1 ++ (down YS yv y1 y2 fr tu r).1, 1 + (down YS yv y1 y2 fr tu l).2 + (down YS yv y1 y2 fr tu r).2) := by
  rw [down, if_neg h, if_neg h2]

theorem down_cost (t : FT) (hw : t.wf) (s : Nat) : (down YS yv y1 y2 fr tu t).2 ≤ (t.canon s fr tu).2 := by
  induction t generalizing s with
  | leaf a =>
    rw [down, FT.canon]
    split <;> split <;> simp
  | node l r il ir =>
    have hpos : 1 ≤ ((FT.node l r).canon s fr tu).2 := by
      rw [FT.canon]
      split
      · exact Nat.le_refl _
      · split
        · exact Nat.le_refl _
        · exact Nat.le_add_left _ _
    by_cases h0 : upto yv y2 (nl YS (.node l r)) ≤ below yv y1 (nl YS (.node l r)) ∨ (FT.node l r).hi ≤ fr ∨ tu ≤ (FT.node l r).lo
    · rw [down_out h0]; exact hpos
    · by_cases h1 : fr ≤ (FT.node l r).lo ∧ (FT.node l r).hi ≤ tu
      · rw [down_in h0 h1]; exact hpos
      · rw [down_part h0 h1, FT.canon_part (fun h => h0 (.inr h)) h1]
        have a1 := il hw.1 s
        have a2 := ir hw.2.1 (s + l.size)
        show 1 + _ + _ ≤ _ + _ + 1
        omega

theorem down_mem (t : FT) (hw : t.wf) (hs : YS.Pairwise fun i k => yv i ≤ yv k) (hy : y1 ≤ y2) (i : Nat) : i ∈ (down YS yv y1 y2 fr tu t).1 ↔ i ∈ nl YS t ∧ fr ≤ i ∧ i < tu ∧ y1 ≤ yv i ∧ yv i ≤ y2 := by
  have hbt : ∀ t : FT, upto yv y2 (nl YS t) ≤ below yv y1 (nl YS t) → ∀ i ∈ nl YS t, ¬ (y1 ≤ yv i ∧ yv i ≤ y2) := fun t h i hi h2 => by
    have h3 := btw_len (hs.filter (fun i => decide (t.lo ≤ i ∧ i < t.hi))) y1 y2 hy
    have h4 : (btw yv y1 y2 (nl YS t)).length = 0 := by unfold nl at h ⊢; omega
    have h5 : i ∈ btw yv y1 y2 (nl YS t) := List.mem_filter.2 ⟨hi, by simpa using h2⟩
    rw [List.eq_nil_of_length_eq_zero h4] at h5
    cases h5
  have hin : ∀ t : FT, ∀ i ∈ nl YS t, t.lo ≤ i ∧ i < t.hi := fun t i hi => by simpa using (List.mem_filter.1 hi).2
  induction t with
  | leaf a =>
    by_cases h0 : upto yv y2 (nl YS (.leaf a)) ≤ below yv y1 (nl YS (.leaf a)) ∨ (FT.leaf a).hi ≤ fr ∨ tu ≤ (FT.leaf a).lo
    · rw [down_out h0]
      refine ⟨fun h => absurd h List.not_mem_nil, fun ⟨h1, h2, h3, h4⟩ => ?_⟩
      have h5 := hin _ i h1
      rcases h0 with h | h | h
      · exact absurd h4 (hbt _ h i h1)
      · omega
      · omega
    · rw [down, if_neg h0]
      show i ∈ btw yv y1 y2 _ ↔ _
      unfold btw
      rw [List.mem_filter, decide_eq_true_eq]
      refine ⟨fun ⟨h1, h2⟩ => ⟨h1, ?_, ?_, h2⟩, fun ⟨h1, h2, h3, h4⟩ => ⟨h1, h4⟩⟩
      · have := hin _ i h1
        simp only [FT.lo, FT.hi] at this h0
        omega
      · have := hin _ i h1
        simp only [FT.lo, FT.hi] at this h0
        omega
  | node l r il ir =>
    by_cases h0 : upto yv y2 (nl YS (.node l r)) ≤ below yv y1 (nl YS (.node l r)) ∨ (FT.node l r).hi ≤ fr ∨ tu ≤ (FT.node l r).lo
    · rw [down_out h0]
      refine ⟨fun h => absurd h List.not_mem_nil, fun ⟨h1, h2, h3, h4⟩ => ?_⟩
      have h5 := hin _ i h1
      rcases h0 with h | h | h
      · exact absurd h4 (hbt _ h i h1)
      · omega
      · omega
    · by_cases h1 : fr ≤ (FT.node l r).lo ∧ (FT.node l r).hi ≤ tu
      · rw [down_in h0 h1]
        show i ∈ btw yv y1 y2 _ ↔ _
        unfold btw
        rw [List.mem_filter, decide_eq_true_eq]
        refine ⟨fun ⟨h2, h3⟩ => ⟨h2, ?_, ?_, h3⟩, fun ⟨h2, _, _, h4⟩ => ⟨h2, h4⟩⟩
        · have := hin _ i h2; omega
        · have := hin _ i h2; omega
      · rw [down_part h0 h1]
        show i ∈ _ ++ _ ↔ _
        have e1 := il hw.1
        have e2 := ir hw.2.1
        rw [nl_left YS l r hw, List.mem_filter, decide_eq_true_eq] at e1
        rw [nl_right YS l r hw, List.mem_filter, Bool.not_eq_true', decide_eq_false_iff_not] at e2
        constructor
        · intro h
          rcases List.mem_append.1 h with h | h
          · exact ⟨(e1.1 h).1.1, (e1.1 h).2⟩
          · exact ⟨(e2.1 h).1.1, (e2.1 h).2⟩
        · rintro ⟨h2, h3⟩
          by_cases h4 : i < l.hi
          · exact List.mem_append.2 (.inl (e1.2 ⟨⟨h2, h4⟩, h3⟩))
          · exact List.mem_append.2 (.inr (e2.2 ⟨⟨h2, h4⟩, h3⟩))

theorem down_nodup (t : FT) (hw : t.wf) (hn : YS.Nodup) (hs : YS.Pairwise fun i k => yv i ≤ yv k) (hy : y1 ≤ y2) : (down YS yv y1 y2 fr tu t).1.Nodup := by
  have hf : ∀ (L : List Nat) (p : Nat → Bool), L.Nodup → (L.filter p).Nodup := fun L p h => List.Pairwise.filter _ h
  induction t with
  | leaf a =>
    rw [down]
    split
    · exact List.nodup_nil
    · exact hf _ _ (hf _ _ hn)
  | node l r il ir =>
    rw [down]
    split
    · exact List.nodup_nil
    · split
      · exact hf _ _ (hf _ _ hn)
      · refine List.nodup_append.2 ⟨il hw.1, ir hw.2.1, fun i hi k hk e => ?_⟩
        subst e
        have h1 := ((down_mem l hw.1 hs hy i).1 hi).1
        have h2 := ((down_mem r hw.2.1 hs hy i).1 hk).1
        have h3 : l.lo ≤ i ∧ i < l.hi := by simpa using (List.mem_filter.1 h1).2
        have h4 : r.lo ≤ i ∧ i < r.hi := by simpa using (List.mem_filter.1 h2).2
        have := hw.2.2
        omega
end

end Go.Proofs.YtggfdlanobndjaaGreat

/- Points: orders, being over, skylines: plain lists. No function of the program is walked here. -/
namespace Go.Proofs.YtggfdlanobndjaaGreat

abbrev Pt := Int × Int × Int

/-- by X, then by name -/
def ltX (p q : Pt) : Prop := p.1 < q.1 ∨ p.1 = q.1 ∧ p.2.2 < q.2.2
/-- by Y, then by name -/
def ltY (p q : Pt) : Prop := p.2.1 < q.2.1 ∨ p.2.1 = q.2.1 ∧ p.2.2 < q.2.2
/-- is q over p? -/
def ovr (q p : Pt) : Bool := decide (p.1 ≤ q.1) && decide (p.2.1 ≤ q.2.1) && (decide (q.1 ≠ p.1) || decide (q.2.1 ≠ p.2.1))
/-- is p beaten by one of l? -/
def btn (l : List Pt) (p : Pt) : Bool := l.any fun q => ovr q p

instance : DecidableRel ltX := fun p q => by unfold ltX; exact inferInstance
instance : DecidableRel ltY := fun p q => by unfold ltY; exact inferInstance

theorem ovr_iff (q p : Pt) : ovr q p = true ↔ p.1 ≤ q.1 ∧ p.2.1 ≤ q.2.1 ∧ (q.1 ≠ p.1 ∨ q.2.1 ≠ p.2.1) := by
  simp [ovr, and_assoc]
theorem ovr_no (q p : Pt) : ovr q p = false ↔ ¬ (p.1 ≤ q.1 ∧ p.2.1 ≤ q.2.1 ∧ (q.1 ≠ p.1 ∨ q.2.1 ≠ p.2.1)) := by
  rw [← ovr_iff]; simp
theorem btn_iff (l : List Pt) (p : Pt) : btn l p = true ↔ ∃ q ∈ l, ovr q p = true := by simp [btn]
theorem btn_no (l : List Pt) (p : Pt) : btn l p = false ↔ ∀ q ∈ l, ovr q p = false := by simp [btn]

theorem ltX_trans {p q r : Pt} (h : ltX p q) (h2 : ltX q r) : ltX p r := by unfold ltX at *; omega
theorem ltX_irr (p : Pt) : ¬ ltX p p := by unfold ltX; omega
theorem ltX_asymm {p q : Pt} (h : ltX p q) (h2 : ltX q p) : False := by unfold ltX at *; omega
theorem ltY_trans {p q r : Pt} (h : ltY p q) (h2 : ltY q r) : ltY p r := by unfold ltY at *; omega
theorem ltY_irr (p : Pt) : ¬ ltY p p := by unfold ltY; omega
theorem ltY_asymm {p q : Pt} (h : ltY p q) (h2 : ltY q p) : False := by unfold ltY at *; omega
theorem ovr_trans {p q r : Pt} (h : ovr p q = true) (h2 : ovr q r = true) : ovr p r = true := by
  rw [ovr_iff] at *; omega
theorem ovr_irr (p : Pt) : ovr p p = false := by rw [ovr_no]; omega

theorem nodup_of_strict {α : Type} {R : α → α → Prop} (hR : ∀ p, ¬ R p p) {l : List α} (h : l.Pairwise R) : l.Nodup := by
  show l.Pairwise (· ≠ ·)
  exact h.imp fun {a b} hab e => by subst e; exact hR a hab

/-- sorted lists of the same elements are the same -/
theorem sorted_ext {α : Type} {R : α → α → Prop} (hirr : ∀ p, ¬ R p p) (has : ∀ {p q}, R p q → R q p → False) {a b : List α} (ha : a.Pairwise R) (hb : b.Pairwise R) (h : ∀ p, p ∈ a ↔ p ∈ b) : a = b := by
  have hp : a.Perm b := (List.perm_ext_iff_of_nodup (nodup_of_strict hirr ha) (nodup_of_strict hirr hb)).2 h
  exact List.Perm.eq_of_pairwise (fun _ _ _ _ h1 h2 => (has h1 h2).elim) ha hb hp

theorem countP_lt {α : Type} {p q : α → Bool} {l : List α} (h : ∀ x ∈ l, p x = true → q x = true) {y : α} (hy : y ∈ l) (h1 : q y = true) (h2 : p y = false) : l.countP p < l.countP q := by
  induction l with
  | nil => cases hy
  | cons x l ih =>
    have hm : l.countP p ≤ l.countP q := List.countP_mono_left fun z hz => h z (by simp [hz])
    rw [List.countP_cons, List.countP_cons]
    rcases List.mem_cons.1 hy with rfl | hy
    · simp [h1, h2]; omega
    · have := ih (fun z hz => h z (by simp [hz])) hy
      have hx := h x (by simp)
      cases hpx : p x
      · simp; split <;> omega
      · simp [hx hpx]; omega

/-- over each point there is one, or it is itself one, over which there is none -/
theorem top_over (S : List Pt) : ∀ (n : Nat) (q : Pt), q ∈ S → S.countP (fun r => ovr r q) ≤ n → ∃ t ∈ S, (t = q ∨ ovr t q = true) ∧ btn S t = false
  | 0, q, hq, h => by
    refine ⟨q, hq, .inl rfl, ?_⟩
    rw [btn_no]
    intro r hr
    have h0 : S.countP (fun r => ovr r q) = 0 := by omega
    rw [List.countP_eq_zero] at h0
    simpa using h0 r hr
  | n + 1, q, hq, h => by
    cases hb : btn S q
    · exact ⟨q, hq, .inl rfl, hb⟩
    · obtain ⟨r, hr, ho⟩ := (btn_iff S q).1 hb
      have hlt : S.countP (fun s => ovr s r) < S.countP (fun s => ovr s q) :=
        countP_lt (fun s _ hs => ovr_trans hs ho) hr ho (ovr_irr r)
      obtain ⟨t, ht, h1, h2⟩ := top_over S n r hr (by omega)
      refine ⟨t, ht, .inr ?_, h2⟩
      rcases h1 with rfl | h1
      · exact ho
      · exact ovr_trans h1 ho

theorem top_of (S : List Pt) (q : Pt) (hq : q ∈ S) : ∃ t ∈ S, (t = q ∨ ovr t q = true) ∧ btn S t = false := top_over S _ q hq (Nat.le_refl _)

/-- the points over which there is none -/
def sky (S : List Pt) : List Pt := S.filter fun p => !btn S p

theorem mem_sky (S : List Pt) (p : Pt) : p ∈ sky S ↔ p ∈ S ∧ btn S p = false := by simp [sky]
theorem sky_sorted {S : List Pt} (h : S.Pairwise ltX) : (sky S).Pairwise ltX := h.sublist List.filter_sublist

/-- T is the skyline of l -/
def IsSky (l T : List Pt) : Prop := T.Pairwise ltX ∧ ∀ p, p ∈ T ↔ p ∈ l ∧ btn l p = false

theorem IsSky.unique {l A B : List Pt} (hA : IsSky l A) (hB : IsSky l B) : A = B :=
  sorted_ext ltX_irr ltX_asymm hA.1 hB.1 fun p => by rw [hA.2, hB.2]

theorem btn_congr {l m : List Pt} (h : ∀ p, p ∈ l ↔ p ∈ m) (p : Pt) : btn l p = btn m p := by
  rw [Bool.eq_iff_iff, btn_iff, btn_iff]
  constructor
  · rintro ⟨q, hq, ho⟩; exact ⟨q, (h q).1 hq, ho⟩
  · rintro ⟨q, hq, ho⟩; exact ⟨q, (h q).2 hq, ho⟩

theorem IsSky.congr {l m T : List Pt} (h : ∀ p, p ∈ l ↔ p ∈ m) (hT : IsSky l T) : IsSky m T :=
  ⟨hT.1, fun p => by rw [hT.2, h, btn_congr h]⟩

theorem isSky_sky {S : List Pt} (h : S.Pairwise ltX) : IsSky S (sky S) := ⟨sky_sorted h, mem_sky S⟩

/-- what is beaten at all is beaten by a point of the skyline -/
theorem btn_sky {l T : List Pt} (hT : IsSky l T) (p : Pt) : btn T p = btn l p := by
  rw [Bool.eq_iff_iff, btn_iff, btn_iff]
  constructor
  · rintro ⟨q, hq, ho⟩; exact ⟨q, ((hT.2 q).1 hq).1, ho⟩
  · rintro ⟨q, hq, ho⟩
    obtain ⟨t, ht, h1, h2⟩ := top_of l q hq
    refine ⟨t, (hT.2 t).2 ⟨ht, h2⟩, ?_⟩
    rcases h1 with rfl | h1
    · exact ho
    · exact ovr_trans h1 ho

/-- one step of the scan: p stands ahead of all that have been gone through -/
def stp (p : Pt) : List Pt → List Pt
  | [] => [p]
  | t :: T => if p.2.1 < t.2.1 ∨ p.2.1 = t.2.1 ∧ p.1 < t.1 then t :: T else if p.1 = t.1 ∧ t.2.1 < p.2.1 then p :: (t :: T).dropWhile (fun q => decide (q.1 = p.1)) else p :: t :: T

def scanF (S : List Pt) : List Pt := S.foldr stp []

theorem dropWhile_filter_x (c : Int) : ∀ (T : List Pt), T.Pairwise (fun p q => p.1 ≤ q.1) → (∀ q ∈ T, c ≤ q.1) → T.dropWhile (fun q => decide (q.1 = c)) = T.filter fun q => decide (q.1 ≠ c)
  | [], _, _ => rfl
  | t :: T, h, hc => by
    rw [List.pairwise_cons] at h
    by_cases e : t.1 = c
    · rw [List.dropWhile_cons_of_pos (by simp [e]), List.filter_cons_of_neg (by simp [e])]
      exact dropWhile_filter_x c T h.2 fun q hq => hc q (by simp [hq])
    · rw [List.dropWhile_cons_of_neg (by simp [e]), List.filter_cons_of_pos (by simp [e])]
      congr 1
      rw [List.filter_eq_self.2]
      intro q hq
      have h1 := h.1 q hq
      have h2 := hc t (by simp)
      simp
      omega

theorem scanF_sky (S : List Pt) (h : S.Pairwise ltX) : scanF S = sky S := by
  induction S with
  | nil => rfl
  | cons p S ih =>
    rw [List.pairwise_cons] at h
    obtain ⟨hp, hS⟩ := h
    have hT := isSky_sky hS
    show stp p (scanF S) = sky (p :: S)
    rw [ih hS]
    generalize hTe : sky S = T at *
    have hx : ∀ q ∈ S, p.1 ≤ q.1 := fun q hq => by have := hp q hq; unfold ltX at this; omega
    -- what is beaten in p :: S
    have hbt : ∀ q, btn (p :: S) q = (ovr p q || btn S q) := fun q => rfl
    have hpp : btn (p :: S) p = btn S p := by rw [hbt, ovr_irr]; rfl
    have hfil : sky (p :: S) = (if btn S p = true then [] else [p]) ++ T.filter fun q => !ovr p q := by
      rw [← hTe]
      unfold sky
      rw [List.filter_cons, hpp, List.filter_filter]
      have e : (fun q => !btn (p :: S) q) = fun q => (!ovr p q && !btn S q) := by
        funext q; rw [hbt, Bool.not_or]
      rw [e]
      cases btn S p <;> simp
    rw [hfil]
    cases T with
    | nil =>
      have hS0 : btn S p = false := by
        rw [← btn_sky hT]; rfl
      simp [stp, hS0]
    | cons t T =>
      have hTp := hT.1
      have htS := ((hT.2 t).1 (by simp)).1
      have htb := ((hT.2 t).1 (by simp)).2
      have hpt := hx t htS
      -- the first one of the skyline is the highest one
      have htop : ∀ q ∈ t :: T, t.1 ≤ q.1 ∧ q.2.1 ≤ t.2.1 := by
        intro q hq
        rcases List.mem_cons.1 hq with rfl | hq'
        · exact ⟨Int.le_refl _, Int.le_refl _⟩
        · have hlt := (List.pairwise_cons.1 hTp).1 q hq'
          have hno := (btn_no _ _).1 htb q ((hT.2 q).1 hq).1
          rw [ovr_no] at hno
          unfold ltX at hlt
          have hno2 := (btn_no _ _).1 ((hT.2 q).1 hq).2 t htS
          rw [ovr_no] at hno2
          omega
      have hbp : btn S p = true ↔ (p.2.1 < t.2.1 ∨ p.2.1 = t.2.1 ∧ p.1 < t.1) := by
        rw [← btn_sky hT, btn_iff]
        constructor
        · rintro ⟨q, hq, ho⟩
          have h1 := htop q hq
          rw [ovr_iff] at ho
          by_cases e : p.2.1 = t.2.1 ∧ p.1 = t.1
          · have hno := (btn_no _ _).1 htb q ((hT.2 q).1 hq).1
            rw [ovr_no] at hno
            omega
          · omega
        · intro h1
          exact ⟨t, by simp, by rw [ovr_iff]; omega⟩
      by_cases hb : p.2.1 < t.2.1 ∨ p.2.1 = t.2.1 ∧ p.1 < t.1
      · have hb1 : btn S p = true := hbp.2 hb
        rw [if_pos hb1, List.nil_append]
        have hst : stp p (t :: T) = t :: T := by simp only [stp]; rw [if_pos hb]
        rw [hst, List.filter_eq_self.2]
        intro q hq
        have hqb := ((hT.2 q).1 hq).2
        cases hov : ovr p q
        · rfl
        · obtain ⟨r, hr, ho⟩ := (btn_iff S p).1 hb1
          have := (btn_no _ _).1 hqb r hr
          rw [ovr_trans ho hov] at this
          cases this
      · have hb1 : ¬ btn S p = true := fun h => hb (hbp.1 h)
        rw [if_neg hb1, List.singleton_append]
        by_cases hc : p.1 = t.1 ∧ t.2.1 < p.2.1
        · have hst : stp p (t :: T) = p :: (t :: T).dropWhile (fun q => decide (q.1 = p.1)) := by simp only [stp]; rw [if_neg hb, if_pos hc]
          rw [hst, dropWhile_filter_x p.1 (t :: T) (hTp.imp fun {a b} hab => by unfold ltX at hab; omega) (fun q hq => by have := htop q hq; omega)]
          congr 1
          refine List.filter_congr fun q hq => ?_
          have h1 := htop q hq
          by_cases e : q.1 = p.1
          · have ho : ovr p q = true := by rw [ovr_iff]; omega
            simp [e, ho]
          · have ho : ovr p q = false := by rw [ovr_no]; have := hx q ((hT.2 q).1 hq).1; omega
            simp [e, ho]
        · have hst : stp p (t :: T) = p :: t :: T := by simp only [stp]; rw [if_neg hb, if_neg hc]
          rw [hst, List.filter_eq_self.2]
          intro q hq
          have h1 := htop q hq
          have hno2 := (btn_no _ _).1 ((hT.2 q).1 hq).2 t htS
          rw [ovr_no] at hno2
          have ho : ovr p q = false := by rw [ovr_no]; omega
          simp [ho]

/-! ### Stairs -/
/-- q may stand next behind p on a stair -/
def stR (p q : Pt) : Prop := p.1 = q.1 ∧ p.2.1 = q.2.1 ∧ p.2.2 < q.2.2 ∨ p.1 < q.1 ∧ q.2.1 < p.2.1
instance : DecidableRel stR := fun p q => by unfold stR; exact inferInstance

theorem stR_trans {p q r : Pt} (h : stR p q) (h2 : stR q r) : stR p r := by unfold stR at *; omega

theorem pairwise_of_next {α : Type} {R : α → α → Prop} (ht : ∀ a b c, R a b → R b c → R a c) : ∀ l : List α, (∀ i (h : i + 1 < l.length), R l[i] l[i + 1]) → l.Pairwise R
  | [], _ => .nil
  | [x], _ => List.pairwise_singleton _ _
  | x :: y :: l, h => by
    have ih := pairwise_of_next ht (y :: l) fun i hi => by
      have := h (i + 1) (by simpa using hi)
      simpa using this
    rw [List.pairwise_cons]
    refine ⟨fun z hz => ?_, ih⟩
    have h0 : R x y := by simpa using h 0 (by simp)
    rcases List.mem_cons.1 hz with rfl | hz
    · exact h0
    · exact ht _ _ _ h0 ((List.pairwise_cons.1 ih).1 z hz)

theorem pairwise_mem {α : Type} {R : α → α → Prop} {l : List α} (h : l.Pairwise R) {p q : α} (hp : p ∈ l) (hq : q ∈ l) : p = q ∨ R p q ∨ R q p := by
  obtain ⟨i, hi, rfl⟩ := List.getElem_of_mem hp
  obtain ⟨j, hj, rfl⟩ := List.getElem_of_mem hq
  rcases Nat.lt_trichotomy i j with h1 | h1 | h1
  · exact .inr (.inl (List.pairwise_iff_getElem.1 h i j hi hj h1))
  · subst h1; exact .inl rfl
  · exact .inr (.inr (List.pairwise_iff_getElem.1 h j i hj hi h1))

/-- each stands rightly behind the one ahead of it -/
def chainOK (l : List Pt) : Bool := decide (∀ i, i < l.length - 1 → stR (l.getD i (0, 0, 0)) (l.getD (i + 1) (0, 0, 0)))

theorem chainOK_iff (l : List Pt) : chainOK l = true ↔ ∀ i (h : i + 1 < l.length), stR l[i] l[i + 1] := by
  unfold chainOK
  rw [decide_eq_true_iff]
  constructor
  · intro h i hi
    have := h i (by omega)
    simpa [hi, show i < l.length by omega] using this
  · intro h i hi
    have := h i (by omega)
    simpa [show i + 1 < l.length by omega, show i < l.length by omega] using this

theorem chainOK_pairwise {l : List Pt} (h : chainOK l = true) : l.Pairwise stR := pairwise_of_next (R := stR) (fun _ _ _ => stR_trans) l ((chainOK_iff l).1 h)

theorem chainOK_sky (l : List Pt) : chainOK l = true ↔ IsSky l l := by
  constructor
  · intro h
    have hp := chainOK_pairwise h
    refine ⟨hp.imp fun {a b} hab => by unfold stR at hab; unfold ltX; omega, fun p => ⟨fun hpl => ⟨hpl, ?_⟩, fun h => h.1⟩⟩
    rw [btn_no]
    intro q hq
    rw [ovr_no]
    rcases pairwise_mem hp hpl hq with rfl | h1 | h1
    · omega
    · unfold stR at h1; omega
    · unfold stR at h1; omega
  · intro h
    rw [chainOK_iff]
    intro i hi
    have h1 := List.pairwise_iff_getElem.1 h.1 i (i + 1) (by omega) hi (by omega)
    have h2 := (btn_no _ _).1 ((h.2 l[i]).1 (List.getElem_mem _)).2 l[i + 1] (List.getElem_mem _)
    have h3 := (btn_no _ _).1 ((h.2 l[i + 1]).1 (List.getElem_mem _)).2 l[i] (List.getElem_mem _)
    rw [ovr_no] at h2 h3
    unfold ltX at h1
    unfold stR
    omega

/-- the names -/
def ids (l : List Pt) : List Int := l.map fun p => p.2.2
def unl (l : List Pt) : Bool := decide (ids l).Nodup

/-- l in order by X -/
def leX (p q : Pt) : Bool := !decide (ltX q p)
def srtX (l : List Pt) : List Pt := l.mergeSort leX
theorem srtX_perm (l : List Pt) : (srtX l).Perm l := List.mergeSort_perm l leX
theorem srtX_mem (l : List Pt) (p : Pt) : p ∈ srtX l ↔ p ∈ l := (srtX_perm l).mem_iff

theorem ids_inj {l : List Pt} (h : (ids l).Nodup) {p q : Pt} (hp : p ∈ l) (hq : q ∈ l) (e : p.2.2 = q.2.2) : p = q := by
  have h3 : l.Pairwise fun p q => p.2.2 ≠ q.2.2 := List.pairwise_map.1 h
  rcases pairwise_mem h3 hp hq with h1 | h1 | h1
  · exact h1
  · exact absurd e h1
  · exact absurd e.symm h1

theorem srtX_sorted {l : List Pt} (h : (ids l).Nodup) : (srtX l).Pairwise ltX := by
  have h1 : (srtX l).Pairwise fun p q => leX p q = true := List.pairwise_mergeSort (le := leX) (fun p q r hpq hqr => by simp only [leX, Bool.not_eq_true', decide_eq_false_iff_not] at *; unfold ltX at *; omega) (fun p q => by simp only [leX, Bool.or_eq_true, Bool.not_eq_true', decide_eq_false_iff_not]; unfold ltX; omega) l
  have h2 : (ids (srtX l)).Nodup := ((srtX_perm l).map _).nodup_iff.2 h
  have h3 : (srtX l).Pairwise fun p q => p.2.2 ≠ q.2.2 := by
    unfold ids at h2
    exact List.pairwise_map.1 h2
  refine (h1.and h3).imp fun {a b} hab => ?_
  obtain ⟨ha, hb⟩ := hab
  simp only [leX, Bool.not_eq_true', decide_eq_false_iff_not] at ha
  unfold ltX at *
  omega

/-- the skyline of unlike points -/
def skyOf (l : List Pt) : List Pt := sky (srtX l)
theorem skyOf_is {l : List Pt} (h : (ids l).Nodup) : IsSky l (skyOf l) := (isSky_sky (srtX_sorted h)).congr (srtX_mem l)

/-- what is sorted, and has l's points, is l in order -/
theorem srtX_eq {l S : List Pt} (h : (ids l).Nodup) (hS : S.Pairwise ltX) (hm : ∀ p, p ∈ S ↔ p ∈ l) : S = srtX l :=
  sorted_ext ltX_irr ltX_asymm hS (srtX_sorted h) fun p => by rw [hm, srtX_mem]

/-- is one of a stair over p? the first one that is not left of p tells it -/
theorem stair_beats {s : List Pt} (h : IsSky s s) (p : Pt) (k : Nat) (hk : k ≤ s.length) (h1 : ∀ t (ht : t < s.length), t < k → s[t].1 < p.1) (h2 : ∀ t (ht : t < s.length), k ≤ t → p.1 ≤ s[t].1) :
    btn s p = if hk : k < s.length then ovr s[k] p else false := by
  have hst := chainOK_pairwise ((chainOK_sky s).2 h)
  rw [Bool.eq_iff_iff, btn_iff]
  by_cases hk : k < s.length
  · rw [dif_pos hk]
    constructor
    · rintro ⟨q, hq, ho⟩
      obtain ⟨t, ht, rfl⟩ := List.getElem_of_mem hq
      rw [ovr_iff] at ho
      by_cases hkt : k ≤ t
      · have a1 := h2 k hk (Nat.le_refl _)
        rw [ovr_iff]
        by_cases e : k = t
        · subst e; omega
        · have := List.pairwise_iff_getElem.1 hst k t hk ht (by omega)
          unfold stR at this
          omega
      · have := h1 t ht (by omega)
        omega
    · intro ho
      exact ⟨s[k], List.getElem_mem _, ho⟩
  · rw [dif_neg hk]
    constructor
    · rintro ⟨q, hq, ho⟩
      obtain ⟨t, ht, rfl⟩ := List.getElem_of_mem hq
      have := h1 t ht (by omega)
      rw [ovr_iff] at ho
      omega
    · intro h; cases h

end Go.Proofs.YtggfdlanobndjaaGreat

/- Plain facts on binary search: nothing of the program stands here. -/
namespace Go.Proofs.YtggfdlanobndjaaGreat
/-- binary search with its count of looks -/
def bsrch (p : Nat → Bool) : Nat → Nat → Nat → Nat → Nat × Nat
  | 0, lo, _, k => (lo, k)
  | f + 1, lo, hi, k => if lo < hi then (if p (lo + (hi - lo) / 2) then bsrch p f lo (lo + (hi - lo) / 2) (k + 1) else bsrch p f (lo + (hi - lo) / 2 + 1) hi (k + 1)) else (lo, k)

theorem bsrch_fuel (p : Nat → Bool) : ∀ (f g lo hi k : Nat), hi - lo ≤ f → hi - lo ≤ g → bsrch p f lo hi k = bsrch p g lo hi k := by
  intro f
  induction f with
  | zero => intro g lo hi k h1 h2; cases g with
    | zero => rfl
    | succ g => simp [bsrch, show ¬ lo < hi by omega]
  | succ f ih => intro g lo hi k h1 h2; cases g with
    | zero => simp [bsrch, show ¬ lo < hi by omega]
    | succ g =>
      simp only [bsrch]
      by_cases h : lo < hi
      · rw [if_pos h, if_pos h]
        rw [ih g _ _ _ (by omega) (by omega), ih g _ _ _ (by omega) (by omega)]
      · rw [if_neg h, if_neg h]

theorem bsrch_looked (p : Nat → Bool) : ∀ (f lo hi k : Nat), hi - lo ≤ f → (bsrch p f lo hi k).2 ≤ k + (hi - lo) ∧ (lo ≤ hi → lo ≤ (bsrch p f lo hi k).1 ∧ (bsrch p f lo hi k).1 ≤ hi) := by
  intro f
  induction f with
  | zero => intro lo hi k h1; simp [bsrch]
  | succ f ih =>
    intro lo hi k h1
    simp only [bsrch]
    by_cases h : lo < hi
    · rw [if_pos h]
      split
      · have := ih lo (lo + (hi - lo) / 2) (k + 1) (by omega)
        omega
      · have := ih (lo + (hi - lo) / 2 + 1) hi (k + 1) (by omega)
        omega
    · rw [if_neg h]; simp


def rkFirst (l : List Int) (x : Int) : Nat × Nat := bsrch (fun i => decide (x ≤ l.getD i 0)) l.length 0 l.length 0
def rkAbove (l : List Int) (x : Int) : Nat × Nat := bsrch (fun i => decide (x < l.getD i 0)) l.length 0 l.length 0
end Go.Proofs.YtggfdlanobndjaaGreat

/- The plain state of a cascade: a row by X, which of it is gone, the living ones by Y. No function of the program is walked here. -/
namespace Go.Proofs.YtggfdlanobndjaaGreat
open Go

abbrev ptAt (R : List Pt) (i : Nat) : Pt := R.getD i (0, 0, 0)
def nmR (R : List Pt) (i : Nat) : Int := (ptAt R i).2.2
def yvR (R : List Pt) (i : Nat) : Int := (ptAt R i).2.1

theorem nodup_ltR {l : List Nat} {n : Nat} (h : l.Nodup) (hl : ∀ k ∈ l, k < n) : l.length ≤ n := by
  induction n generalizing l with
  | zero =>
    cases l with
    | nil => exact Nat.le_refl _
    | cons x l => exact absurd (hl x List.mem_cons_self) (Nat.not_lt_zero _)
  | succ n ih =>
    have h1 := ih (l := l.erase n) (h.erase n) fun k hk => by
      have h2 := (List.Nodup.mem_erase_iff h).1 hk
      have h3 := hl k h2.2
      have h4 := h2.1
      omega
    have h2 := List.length_erase_le (a := n) (l := l)
    have h3 : l.length ≤ (l.erase n).length + 1 := by
      rw [List.length_erase]
      split <;> omega
    omega

/-- the row rises by X, the living ones by Y -/
structure CscWF (R : List Pt) (gone : List Bool) (YS : List Nat) : Prop where
  rowX : R.Pairwise ltX
  ids : (ids R).Nodup
  glen : gone.length = R.length
  nodup : YS.Nodup
  live : ∀ i, i ∈ YS ↔ gone[i]? = some false
  ysY : YS.Pairwise fun i k => ltY (ptAt R i) (ptAt R k)

theorem CscWF.lt {R : List Pt} {gone : List Bool} {YS : List Nat} (h : CscWF R gone YS) {i : Nat} (hi : i ∈ YS) : i < R.length := by
  have := (List.getElem?_eq_some_iff.1 ((h.live i).1 hi)).1
  have := h.glen
  omega
theorem CscWF.le {R : List Pt} {gone : List Bool} {YS : List Nat} (h : CscWF R gone YS) : YS.Pairwise fun i k => yvR R i ≤ yvR R k :=
  h.ysY.imp fun h => by unfold ltY at h; unfold yvR; omega
theorem CscWF.len {R : List Pt} {gone : List Bool} {YS : List Nat} (h : CscWF R gone YS) : YS.length ≤ R.length := by
  exact nodup_ltR h.nodup fun k hk => h.lt hk
theorem CscWF.top {R : List Pt} {gone : List Bool} {YS : List Nat} (h : CscWF R gone YS) (h0 : 0 < R.length) : nl YS (mkT 0 R.length) = YS := by
  obtain ⟨-, e1, e2⟩ := mkT_spec 0 R.length h0
  unfold nl
  refine List.filter_eq_self.2 fun i hi => ?_
  have := h.lt hi
  rw [e1, e2]
  simp
  omega

def xsR (R : List Pt) : List Int := R.map fun p => p.1
def ysR (R : List Pt) (YS : List Nat) : List Int := YS.map (yvR R)

/-- what a box has, and what is touched -/
def askR (R : List Pt) (YS : List Nat) (x1 x2 y1 y2 : Int) : List Nat × Nat :=
  if R = [] ∨ x2 < x1 ∨ y2 < y1 then ([], 0) else
    ((down YS (yvR R) y1 y2 (rkFirst (xsR R) x1).1 (rkAbove (xsR R) x2).1 (mkT 0 R.length)).1,
     (rkFirst (xsR R) x1).2 + (rkAbove (xsR R) x2).2 + (rkFirst (ysR R YS) y1).2 + (rkAbove (ysR R YS) y2).2 + (down YS (yvR R) y1 y2 (rkFirst (xsR R) x1).1 (rkAbove (xsR R) x2).1 (mkT 0 R.length)).2)

end Go.Proofs.YtggfdlanobndjaaGreat

/- pool.kids: the iterator over a node's kids: none, or two. -/
namespace Go.Proofs.YtggfdlanobndjaaGreat
open Go.RowKit Go.Shelf
attribute [local go_sem] Oper.semAt_some
set_option linter.unusedSimpArgs false
set_option linter.unusedVariables false

/-- the cells of a block stay -/
def KpB (Bn : Nat) (W W' : World) : Prop := ∀ o, W'.cell? ⟨Bn, o, none⟩ = W.cell? ⟨Bn, o, none⟩
theorem KpB.trans {Bn : Nat} {A B C : World} (h : KpB Bn A B) (h2 : KpB Bn B C) : KpB Bn A C := fun o => (h2 o).trans (h o)

set_option maxRecDepth 100000 in
set_option maxHeartbeats 2000000 in
theorem kids_two {α : Type} (enc : α → Int) (L R : α) (F : Fence) (n : Nat) (hF : F.fn 176) (hro : F.round = none) (hn : 1 ≤ n) (Bn : Nat) (w : World) (hBn : Bn < w.heap.size) (h1 : w.cell? ⟨Bn, 1, none⟩ = some (.int .i64 (enc L))) (h2 : w.cell? ⟨Bn, 2, none⟩ = some (.int .i64 (enc R))) (hL : (enc L != -1) = true) (hR : (enc R != -1) = true) :
    SeqStopsK F n Tryz.prog 176 #[.pointer (some ⟨Bn, 0, none⟩)] (fun v : α => #[Value.int .i64 (enc v)]) (KpB Bn) (fun xs => xs = [L, R]) (fun pre => pre = [L] ∨ pre = [L, R]) 2 w := fun l J Jx W hW _ _ hY h0 => by
  have c1 : W.cell? ⟨Bn, 1, none⟩ = some (.int .i64 (enc L)) := (hW.cell (p := ⟨Bn, 1, none⟩) hBn).trans h1
  have c2 : W.cell? ⟨Bn, 2, none⟩ = some (.int .i64 (enc R)) := (hW.cell (p := ⟨Bn, 2, none⟩) hBn).trans h2
  clear h1 h2
  refine callsIn_of_wp Tryz.func176 rfl hF ?_ hro
  simp only [Tryz.ntmps176, List.size_toArray, List.length_cons, List.length_nil, Nat.reduceAdd, Nat.reduceSub, Array.replicate_succ, Array.replicate_zero, List.push_toArray, List.append_toArray, List.nil_append, List.cons_append]
  obtain ⟨f1, t1, a1, b1, hy1, hR1⟩ := hY [] L W h0 (by simp)
  dsimp only at hy1
  gi_wp2
  refine hR1.mono ?_
  rintro e W1 (⟨rfl, hJ1, hk1⟩ | ⟨rfl, hx1⟩)
  · have d2 := (hk1 2).trans c2
    obtain ⟨f2, t2, a2, b2, hy2, hR2⟩ := hY [L] R W1 hJ1 (by simp)
    gi_wp2
    refine hR2.mono ?_
    rintro e W2 (⟨rfl, hJ2, _⟩ | ⟨rfl, hx2⟩)
    · gi_wp2
      go_end0
      exact ⟨⟨_, rfl⟩, .inl ⟨[L, R], rfl, hJ2⟩⟩
    · gi_wp2
      go_end0
      exact ⟨⟨_, rfl⟩, .inr ⟨[L, R], .inr rfl, hx2⟩⟩
  · gi_wp2
    refine bodyPost_ret (results_none rfl _ _ _) rfl ?_
    exact ⟨⟨_, rfl⟩, .inr ⟨[L], .inl rfl, hx1⟩⟩

set_option maxRecDepth 100000 in
set_option maxHeartbeats 2000000 in
theorem kids_no {α : Type} (enc : α → Int) (F : Fence) (n : Nat) (hF : F.fn 176) (hro : F.round = none) (hn : 1 ≤ n) (Bn : Nat) (w : World) (hBn : Bn < w.heap.size) (h1 : w.cell? ⟨Bn, 1, none⟩ = some (.int .i64 (-1))) (h2 : w.cell? ⟨Bn, 2, none⟩ = some (.int .i64 (-1))) :
    SeqStopsK F n Tryz.prog 176 #[.pointer (some ⟨Bn, 0, none⟩)] (fun v : α => #[Value.int .i64 (enc v)]) (KpB Bn) (fun xs => xs = []) (fun pre => False) 0 w := fun l J Jx W hW _ _ hY h0 => by
  have c1 : W.cell? ⟨Bn, 1, none⟩ = some (.int .i64 (-1)) := (hW.cell (p := ⟨Bn, 1, none⟩) hBn).trans h1
  have c2 : W.cell? ⟨Bn, 2, none⟩ = some (.int .i64 (-1)) := (hW.cell (p := ⟨Bn, 2, none⟩) hBn).trans h2
  clear h1 h2
  refine callsIn_of_wp Tryz.func176 rfl hF ?_ hro
  simp only [Tryz.ntmps176, List.size_toArray, List.length_cons, List.length_nil, Nat.reduceAdd, Nat.reduceSub, Array.replicate_succ, Array.replicate_zero, List.push_toArray, List.append_toArray, List.nil_append, List.cons_append]
  gi_wp2
  refine ⟨fun _ h => (by cases h), ?_⟩
  gi_wp2
  go_end0
  exact ⟨⟨_, rfl⟩, .inl ⟨[], rfl, h0⟩⟩

end Go.Proofs.YtggfdlanobndjaaGreat

/- pool: kids, may, put. -/
namespace Go.Proofs.YtggfdlanobndjaaGreat
open Go.RowKit Go.Shelf
attribute [local go_sem] Oper.semAt_some
set_option linter.unusedSimpArgs false
set_option linter.unusedVariables false

/-- a node as a value, and in cells -/
def eNd (d : Nd) : List Value := [.int .u8 d.kind, .int .i64 d.l, .int .i64 d.r, .int .i64 d.fr, .int .i64 d.til, .int .i64 0, .int .i64 d.item]
abbrev vNd (k l r f t i : Int) : Value := .agg #[.int .u8 k, .int .i64 l, .int .i64 r, .int .i64 f, .int .i64 t, .int .i64 0, .int .i64 i]
theorem eNd_len (d : Nd) : (eNd d).length = 7 := rfl
theorem eNd_one (d : Nd) : ∀ u ∈ eNd d, u.oneCell' = true := by intro u hu; simp [eNd] at hu; rcases hu with rfl | rfl | rfl | rfl | rfl | rfl | rfl <;> rfl
theorem elNd : ElemOK Tryz.prog 85 119 7 56 := .mk' (z := .agg #[.int .u8 0, .int .i64 0, .int .i64 0, .int .i64 0, .int .i64 0, .int .i64 0, .int .i64 0]) Tryz.underlying85 (by kernel_rfl) rfl (by decide)

abbrev objNd (k l r f t i : Int) : Obj := .cells #[.int .u8 k, .int .i64 l, .int .i64 r, .int .i64 f, .int .i64 t, .int .i64 0, .int .i64 i] 119

set_option maxRecDepth 100000 in
set_option maxHeartbeats 1000000 in
theorem kids_in (F : Fence) (n : Nat) (hF : F.fn 167) (hro : F.round = none) (k l r f t i : Int) (w : World) :
    CallsIn F n Tryz.prog 167 #[vNd k l r f t i] w fun e w' => e = .returned (.func (.func 176) #[] #[.pointer (some ⟨w.heap.size, 0, none⟩)]) ∧ w' = w.alloc (objNd k l r f t i) := by
  refine callsIn_of_wp Tryz.func167 rfl hF ?_ hro
  simp only [Tryz.ntmps167, List.size_toArray, List.length_cons, List.length_nil, Nat.reduceAdd, Nat.reduceSub, Array.replicate_succ, Array.replicate_zero, List.push_toArray, List.append_toArray, List.nil_append, List.cons_append]
  gi_wp2
  go_ret
  exact ⟨rfl, rfl⟩


/-- the kids of a node marked -/
def marked {m : Nat} (kid : List Bool) (xs : List { q : Nat // q < m }) : List Bool := xs.foldl (fun l x => l.set x.1 true) kid
theorem marked_len {m : Nat} (kid : List Bool) (xs : List { q : Nat // q < m }) : (marked kid xs).length = kid.length := by
  unfold marked
  induction xs generalizing kid with
  | nil => rfl
  | cons x xs ih => rw [List.foldl_cons, ih, List.length_set]
theorem marked_snoc {m : Nat} (kid : List Bool) (xs : List { q : Nat // q < m }) (x : { q : Nat // q < m }) : marked kid (xs ++ [x]) = (marked kid xs).set x.1 true := by unfold marked; rw [List.foldl_append]; rfl

theorem kpB_put {Bn B : Nat} (h : Bn < B) (W : World) (l : Nat) (o o' : Obj) (hl : B ≤ l) : KpB Bn W (W.putObj l o') := fun q => World.cell?_of_block (World.putObj_heap_other (fun e => by have h9 : Bn = l := (by first | exact e | exact e.symm); omega))

/-- what the loop of put keeps -/
def PutI (w0 : World) (bx g : Nat) (kv : Value) (m base : Nat) (kid : List Bool) (pre : List { q : Nat // q < m }) (W : World) : Prop :=
  W.heap[bx]? = some (.cells #[kv] 48 (0, 0)) ∧ W.ownsRow base 4 1 kv m ((marked kid pre).map Value.bool) ∧ KpS (fun k => k = g) w0 W
theorem putI_own {w0 : World} {B bx g m base : Nat} {kv : Value} {kid : List Bool} (hB : w0.heap.size ≤ B) : OwnFrom B (PutI w0 bx g kv m base kid) := by
  rintro s W W' row ⟨h1, h2, h3⟩ hg hr
  have hne : ∀ (b : Nat) cs t fr, W.heap[b]? = some (.cells cs t fr) → W'.heap[b]? = W.heap[b]? := fun b cs t fr hb => hg.block b (Array.getElem?_eq_some_iff.1 hb).1 fun e => by
    obtain ⟨-, o, ho, hc⟩ := hr b e.symm
    rw [hb] at ho
    injection ho with ho
    subst ho
    cases hc
  refine ⟨(hne _ _ _ _ h1).trans h1, owns_sameH h2 fun gb e => ?_, h3.grown hg fun k e => .inr (Nat.le_trans hB (hr k e).1)⟩
  rcases h2.2 with ⟨rfl, _⟩ | ⟨g9, cap, cur, rfl, _, hh, _⟩
  · cases e
  · simp only [Value.ownBlock, Option.some.injEq] at e
    subst e
    exact hne _ _ _ _ hh


theorem cell_one (W : World) (v : Value) (t : TypeId) : ∀ j u, [v][j]? = some u → (W.alloc (.cells #[v] t)).cell? ((⟨W.heap.size, 0, none⟩ : Addr).add j) = some u := by
  intro j u hu
  have hadd : (⟨W.heap.size, 0, none⟩ : Addr).add j = ⟨W.heap.size, j, none⟩ := by unfold Addr.add; split <;> simp_all
  rw [hadd, World.cell?_alloc_at _ _ _ _ (by rfl)]
  simpa using hu

/-- what put leaves -/
def PutQ (w : World) (base m : Nat) (kv : Value) (kid : List Bool) (e : Ending) (w' : World) : Prop :=
  ∃ v', e = .returned v' ∧ w'.ownsRow base 4 1 v' (m + 1) ((kid ++ [false]).map Value.bool) ∧ (v'.ownBlock = kv.ownBlock ∨ ∃ b, v'.ownBlock = some b ∧ w.heap.size ≤ b) ∧ KpS (fun k => kv.ownBlock = some k) w w'

set_option maxRecDepth 100000 in
set_option maxHeartbeats 4000000 in
theorem put_two_in (F : Fence) (n : Nat) (hF : F.fn 159) (hFk : F.fn 167) (hFk1 : F.fn 176) (hro : F.round = none) (hn : 3 ≤ n) (k f t it : Int) (i j : Nat) (g m cp base : Nat) (kid : List Bool) (w : World) (hk : kid.length = m) (hm : m ≤ 100000) (hi : i < m) (hj : j < m)
    (hrow : w.ownsRow base 4 1 (.slice (some ⟨g, 0, none⟩) m cp) m (kid.map Value.bool)) (hbw : base ≤ w.heap.size) :
    CallsIn F n Tryz.prog 159 #[vNd k i j f t it, .slice (some ⟨g, 0, none⟩) m cp] w (PutQ w base m (.slice (some ⟨g, 0, none⟩) m cp) ((kid.set i true).set j true)) := by
  have h1 : 1 ≤ n := by omega
  have HR := Lib.hid hrow
  have hg : g < w.heap.size := (hrow.lt g rfl).2
  refine callsIn_of_wp_marks Tryz.func159 rfl hF ?_ hro
  simp only [Tryz.ntmps159, List.size_toArray, List.length_cons, List.length_nil, Nat.reduceAdd, Nat.reduceSub, Array.replicate_succ, Array.replicate_zero, List.push_toArray, List.append_toArray, List.nil_append, List.cons_append]
  gi_wp2_with (gi_at_call 167; refine (kids_in F (n - 1) hFk hro _ _ _ _ _ _ _).mono ?_; rintro e w' ⟨rfl, rfl⟩)
  obtain ⟨wk, hwk⟩ : ∃ wk, wk = ((w.alloc (objNd k i j f t it)).alloc (.cells #[.slice (some ⟨g, 0, none⟩) m cp] 48)).alloc (objNd k i j f t it) := ⟨_, rfl⟩
  have hB : Below w.heap.size w wk := by rw [hwk]; exact (((Below.refl _ w).alloc (Nat.le_refl _) _).alloc (by simp) _).alloc (by simp; omega) _
  have hsz : wk.heap.size = w.heap.size + 3 := by rw [hwk]; simp
  have hbx : wk.heap[w.heap.size + 1]? = some (.cells #[.slice (some ⟨g, 0, none⟩) m cp] 48 (0, 0)) := by
    rw [hwk]
    exact (Below.heap_alloc _ _ _ (by simp)).trans (lit2 w _ _)
  have hn1 : wk.cell? ⟨w.heap.size + 1 + 1, 1, none⟩ = some (.int .i64 i) := by
    rw [hwk, World.cell?_alloc_at _ _ _ _ (by simp)]; rfl
  have hn2 : wk.cell? ⟨w.heap.size + 1 + 1, 2, none⟩ = some (.int .i64 j) := by
    rw [hwk, World.cell?_alloc_at _ _ _ _ (by simp)]; rfl
  rw [← hwk]
  have hI0 : PutI w (w.heap.size + 1) g (.slice (some ⟨g, 0, none⟩) m cp) m base kid [] wk := ⟨hbx, ownsRow_below HR.out hB, (KpS.refl _ w).below hB⟩
  have HI0 := Lib.hid hI0
  have HWK := Lib.hid hwk
  have HB := Lib.hid hB
  clear hI0 hwk hB hbx hrow
  refine wpIn_rangeFunc_ownF hro h1 (gf := 176) (lb := #[.pointer (some ⟨w.heap.size + 1 + 1, 0, none⟩)]) rfl hFk1 (enters_of Tryz.func176 (by kernel_rfl) rfl)
    (kids_two (α := { q : Nat // q < m }) (fun x => (x.1 : Int)) ⟨i, hi⟩ ⟨j, hj⟩ F (n - 1) hFk1 hro (by omega) (w.heap.size + 1 + 1) wk (by omega) hn1 hn2 (by simp) (by simp)) KpB.trans (fun W l o o' hl _ _ _ => kpB_put (B := wk.heap.size) (by omega) W l o o' hl) (Below.refl _ _) (fun _ => rfl)
    (fun pre W => PutI w (w.heap.size + 1) g (.slice (some ⟨g, 0, none⟩) m cp) m base kid pre W)
    (fun _ _ _ => False)
    (putI_own (by omega))
    (fun _ _ _ _ _ hs _ _ => hs)
    HI0.out
    (fun x => { tmps := #[vNd k i j f t it, .slice (some ⟨g, 0, none⟩) m cp, .pointer (some ⟨w.heap.size, 0, none⟩), .pointer (some ⟨w.heap.size + 1, 0, none⟩), .slice none 0 0, .int .i64 x.1, vNd k i j f t it, .func (.func 176) #[] #[.pointer (some ⟨w.heap.size + 1 + 1, 0, none⟩)], .int .i64 x.1, undef, undef, undef, undef, undef, undef], defers := [] }) ?assign ?body ?done ?stop
  case assign =>
    intro l x W K hK
    gi_wp2
    exact hK
  case body =>
    rintro l pre ⟨q, hq⟩ W ⟨hb, hr, hkp⟩ _
    have hc : W.cell? ⟨w.heap.size + 1, 0, none⟩ = some (.slice (some ⟨g, 0, none⟩) m cp) := by simp [World.cell?, hb]
    have hml : (marked kid pre).length = m := by rw [marked_len]; exact hk
    have z := hr.cellAt q (by omega)
    obtain ⟨bb, hbb⟩ : ∃ bb, (marked kid pre)[q]? = some bb := ⟨_, List.getElem?_eq_getElem (by omega)⟩
    rw [List.getElem?_map, hbb] at z
    simp only [Option.map_some] at z
    have fz := hr.frozenAt q
    have hq2 : (q : Int) < (m : Int) := by omega
    have hst := (hr.stored q (.bool true)).1
    rw [← List.map_set] at hst
    have HBX := Lib.hid hb
    have HST := Lib.hid hst
    have HKP := Lib.hid hkp
    have HML := Lib.hid hml
    clear hb hst hkp hr hml HI0 hbb
    gi_wp2
    refine ⟨KeepsOthers.setCell _ _ _, fun o => World.cell?_of_block (heap_setNe (by simp; omega)), (heap_setNe (by simp; omega)).trans HBX.out, ?_, HKP.out.set _ (.inl rfl)⟩
    rw [marked_snoc]
    exact HST.out
  case done =>
    rintro D ys W hD rfl ⟨hb, hr, hkp⟩ hK
    have hc : W.cell? ⟨w.heap.size + 1, 0, none⟩ = some (.slice (some ⟨g, 0, none⟩) m cp) := by simp [World.cell?, hb]
    obtain ⟨i0, z0, hi0, hz0, hz1, hz2, hz3⟩ := elBool.hinfo
    have hs := hkp.size
    have HROW := Lib.hid (hr.alloc (.cells #[.bool false] 4))
    have HKP := Lib.hid (hkp.alloc (.cells #[.bool false] 4))
    have HK := Lib.hid hK
    clear hr hkp hb hK
    gi_wp2_with (gi_at_builtin; refine wpListIn_append_own_at _ rfl _ _ 48 rfl base 4 i0 z0 1 1 Tryz.underlying48 hi0 hz0 hz1 hz2 hz3 (by decide) _ _ _ rfl HROW.out ⟨W.heap.size, 0, none⟩ 1 1 [.bool false] rfl rfl (cell_one _ _ _) (by simp [Value.oneCell']) (by unfold maxLen; omega) (by omega) (by simp; omega) ?_; intro v' w1 hown' hgrow _ hat)
    have hDl : D < W.heap.size := (Array.getElem?_eq_some_iff.1 HK.out).1
    have hK1 : w1.heap[D]? = some (.deferred (some [])) := (hgrow.block D (by simp; omega) (fun e => by have h9 : D = g := (by injection e); omega)).trans ((Below.heap_alloc _ _ _ hDl).trans HK.out)
    refine ⟨by simp, .inl ⟨_, _, rfl, run_takeDeferred hK1, ?_⟩⟩
    refine ⟨_, results_tmp rfl _ _ _, v', rfl, ownsRow_putObj (by rw [List.map_append]; exact hown') _ hK1 rfl, ?_, ?_⟩
    · rcases hat with h9 | h9
      · exact .inl h9
      · exact .inr ⟨_, h9, by simp; omega⟩
    · exact (((HKP.out.mono (fun k h => by rw [h]; rfl)).grown hgrow (fun k e => .inl e)).grown (grownBy_putObj' w1 D _) (fun k e => by cases e; exact .inr (by omega)))
  case stop =>
    rintro D c pre W _ _ h _
    exact h.elim

/-- what the loop of put keeps where no kid comes -/
def PutI0 (w0 : World) (bx : Nat) (kv : Value) (m base : Nat) (kid : List Bool) (pre : List { q : Nat // q < m }) (W : World) : Prop :=
  W.heap[bx]? = some (.cells #[kv] 48 (0, 0)) ∧ W.ownsRow base 4 1 kv m ((marked kid pre).map Value.bool) ∧ KpS (fun k => kv.ownBlock = some k) w0 W
theorem putI0_own {w0 : World} {B bx m base : Nat} {kv : Value} {kid : List Bool} (hB : w0.heap.size ≤ B) : OwnFrom B (PutI0 w0 bx kv m base kid) := by
  rintro s W W' row ⟨h1, h2, h3⟩ hg hr
  have hne : ∀ (b : Nat) cs t fr, W.heap[b]? = some (.cells cs t fr) → W'.heap[b]? = W.heap[b]? := fun b cs t fr hb => hg.block b (Array.getElem?_eq_some_iff.1 hb).1 fun e => by
    obtain ⟨-, o, ho, hc⟩ := hr b e.symm
    rw [hb] at ho
    injection ho with ho
    subst ho
    cases hc
  refine ⟨(hne _ _ _ _ h1).trans h1, owns_sameH h2 fun gb e => ?_, h3.grown hg fun k e => .inr (Nat.le_trans hB (hr k e).1)⟩
  rcases h2.2 with ⟨rfl, _⟩ | ⟨g9, cap, cur, rfl, _, hh, _⟩
  · cases e
  · simp only [Value.ownBlock, Option.some.injEq] at e
    subst e
    exact hne _ _ _ _ hh

set_option maxRecDepth 100000 in
set_option maxHeartbeats 4000000 in
theorem put_no_in (F : Fence) (n : Nat) (hF : F.fn 159) (hFk : F.fn 167) (hFk1 : F.fn 176) (hro : F.round = none) (hn : 3 ≤ n) (k f t it : Int) (ka : Option Addr) (m cp base : Nat) (kid : List Bool) (w : World) (hk : kid.length = m) (hm : m ≤ 100000) 
    (hrow : w.ownsRow base 4 1 (.slice ka m cp) m (kid.map Value.bool)) (hbw : base ≤ w.heap.size) :
    CallsIn F n Tryz.prog 159 #[vNd k (-1) (-1) f t it, .slice ka m cp] w (PutQ w base m (.slice ka m cp) kid) := by
  have h1 : 1 ≤ n := by omega
  have HR := Lib.hid hrow
  have HRW := Lib.hid hrow
  refine callsIn_of_wp_marks Tryz.func159 rfl hF ?_ hro
  simp only [Tryz.ntmps159, List.size_toArray, List.length_cons, List.length_nil, Nat.reduceAdd, Nat.reduceSub, Array.replicate_succ, Array.replicate_zero, List.push_toArray, List.append_toArray, List.nil_append, List.cons_append]
  gi_wp2_with (gi_at_call 167; refine (kids_in F (n - 1) hFk hro _ _ _ _ _ _ _).mono ?_; rintro e w' ⟨rfl, rfl⟩)
  obtain ⟨wk, hwk⟩ : ∃ wk, wk = ((w.alloc (objNd k (-1) (-1) f t it)).alloc (.cells #[.slice ka m cp] 48)).alloc (objNd k (-1) (-1) f t it) := ⟨_, rfl⟩
  have hB : Below w.heap.size w wk := by rw [hwk]; exact (((Below.refl _ w).alloc (Nat.le_refl _) _).alloc (by simp) _).alloc (by simp; omega) _
  have hsz : wk.heap.size = w.heap.size + 3 := by rw [hwk]; simp
  have hbx : wk.heap[w.heap.size + 1]? = some (.cells #[.slice ka m cp] 48 (0, 0)) := by
    rw [hwk]
    exact (Below.heap_alloc _ _ _ (by simp)).trans (lit2 w _ _)
  have hn1 : wk.cell? ⟨w.heap.size + 1 + 1, 1, none⟩ = some (.int .i64 (-1)) := by
    rw [hwk, World.cell?_alloc_at _ _ _ _ (by simp)]; rfl
  have hn2 : wk.cell? ⟨w.heap.size + 1 + 1, 2, none⟩ = some (.int .i64 (-1)) := by
    rw [hwk, World.cell?_alloc_at _ _ _ _ (by simp)]; rfl
  rw [← hwk]
  have hI0 : PutI0 w (w.heap.size + 1) (.slice ka m cp) m base kid [] wk := ⟨hbx, ownsRow_below HR.out hB, (KpS.refl _ w).below hB⟩
  have HI0 := Lib.hid hI0
  have HWK := Lib.hid hwk
  have HB := Lib.hid hB
  clear hI0 hwk hB hbx hrow
  refine wpIn_rangeFunc_ownF hro h1 (gf := 176) (lb := #[.pointer (some ⟨w.heap.size + 1 + 1, 0, none⟩)]) rfl hFk1 (enters_of Tryz.func176 (by kernel_rfl) rfl)
    (kids_no (α := { q : Nat // q < m }) (fun x => (x.1 : Int)) F (n - 1) hFk1 hro (by omega) (w.heap.size + 1 + 1) wk (by omega) hn1 hn2) KpB.trans (fun W l o o' hl _ _ _ => kpB_put (B := wk.heap.size) (by omega) W l o o' hl) (Below.refl _ _) (fun _ => rfl)
    (fun pre W => PutI0 w (w.heap.size + 1) (.slice ka m cp) m base kid pre W)
    (fun _ _ _ => False)
    (putI0_own (by omega))
    (fun _ _ _ _ _ hs _ _ => hs)
    HI0.out
    (fun x => { tmps := #[vNd k (-1) (-1) f t it, .slice ka m cp, .pointer (some ⟨w.heap.size, 0, none⟩), .pointer (some ⟨w.heap.size + 1, 0, none⟩), .slice none 0 0, .int .i64 x.1, vNd k (-1) (-1) f t it, .func (.func 176) #[] #[.pointer (some ⟨w.heap.size + 1 + 1, 0, none⟩)], .int .i64 x.1, undef, undef, undef, undef, undef, undef], defers := [] }) ?assign ?body ?done ?stop
  case assign =>
    intro l x W K hK
    gi_wp2
    exact hK
  case body =>
    intro l pre x W _ h
    exact absurd h (Nat.not_lt_zero _)
  case done =>
    rintro D ys W hD rfl ⟨hb, hr, hkp⟩ hK
    have hc : W.cell? ⟨w.heap.size + 1, 0, none⟩ = some (.slice ka m cp) := by simp [World.cell?, hb]
    obtain ⟨i0, z0, hi0, hz0, hz1, hz2, hz3⟩ := elBool.hinfo
    have hs := hkp.size
    have HROW := Lib.hid (hr.alloc (.cells #[.bool false] 4))
    have HKP := Lib.hid (hkp.alloc (.cells #[.bool false] 4))
    have HK := Lib.hid hK
    clear hr hkp hb hK
    gi_wp2_with (gi_at_builtin; refine wpListIn_append_own_at _ rfl _ _ 48 rfl base 4 i0 z0 1 1 Tryz.underlying48 hi0 hz0 hz1 hz2 hz3 (by decide) _ _ _ rfl HROW.out ⟨W.heap.size, 0, none⟩ 1 1 [.bool false] rfl rfl (cell_one _ _ _) (by simp [Value.oneCell']) (by unfold maxLen; omega) (by omega) (by simp; omega) ?_; intro v' w1 hown' hgrow _ hat)
    have hDl : D < W.heap.size := (Array.getElem?_eq_some_iff.1 HK.out).1
    have hK1 : w1.heap[D]? = some (.deferred (some [])) := (hgrow.block D (by simp; omega) (fun e => by have h9 := (HRW.out.lt D e.symm).2; omega)).trans ((Below.heap_alloc _ _ _ hDl).trans HK.out)
    refine ⟨by simp, .inl ⟨_, _, rfl, run_takeDeferred hK1, ?_⟩⟩
    refine ⟨_, results_tmp rfl _ _ _, v', rfl, ownsRow_putObj (by rw [List.map_append]; exact hown') _ hK1 rfl, ?_, ?_⟩
    · rcases hat with h9 | h9
      · exact .inl h9
      · exact .inr ⟨_, h9, by simp; omega⟩
    · exact (((HKP.out).grown hgrow (fun k e => .inl e)).grown (grownBy_putObj' w1 D _) (fun k e => by cases e; exact .inr (by omega)))
  case stop =>
    rintro D c pre W _ _ h _
    exact h.elim


theorem put_two (k f t it : Int) (i j : Nat) (g m cp base : Nat) (kid : List Bool) (w : World) (hk : kid.length = m) (hm : m ≤ 100000) (hi : i < m) (hj : j < m)
    (hrow : w.ownsRow base 4 1 (.slice (some ⟨g, 0, none⟩) m cp) m (kid.map Value.bool)) (hbw : base ≤ w.heap.size) :
    Calls Tryz.prog 159 #[vNd k i j f t it, .slice (some ⟨g, 0, none⟩) m cp] w (PutQ w base m (.slice (some ⟨g, 0, none⟩) m cp) ((kid.set i true).set j true)) := by
  refine (callsIn_wide (n := 3)).1 ?_
  exact put_two_in _ 3 trivial trivial trivial rfl (by decide) k f t it i j g m cp base kid w hk hm hi hj hrow hbw
theorem put_no (k f t it : Int) (ka : Option Addr) (m cp base : Nat) (kid : List Bool) (w : World) (hk : kid.length = m) (hm : m ≤ 100000)
    (hrow : w.ownsRow base 4 1 (.slice ka m cp) m (kid.map Value.bool)) (hbw : base ≤ w.heap.size) :
    Calls Tryz.prog 159 #[vNd k (-1) (-1) f t it, .slice ka m cp] w (PutQ w base m (.slice ka m cp) kid) := by
  refine (callsIn_wide (n := 3)).1 ?_
  exact put_no_in _ 3 trivial trivial trivial rfl (by decide) k f t it ka m cp base kid w hk hm hrow hbw

end Go.Proofs.YtggfdlanobndjaaGreat

/- Regions that draw their order and whose late stores write what the region loads: the loads are taken first. No function of the program is walked here. -/
namespace Go.Proofs.YtggfdlanobndjaaGreat
open Go Go.RowKit
set_option linter.unusedSimpArgs false
set_option linter.unusedVariables false

section
variable {P : Program} {ops : Array Oper} {Q : Exit → Act → World → Prop} {md : Region.Mode} {C : World → Prop} {T : List Nat}

/-- whatever order is picked; behind each operation that is not one of T the world is one of C -/
def wpAnyT (P : Program) (md : Region.Mode) (ops : Array Oper) (Q : Exit → Act → World → Prop) (C : World → Prop) (T : List Nat) : Nat → Array Bool → Act → World → Prop
  | 0, listed, a, w => Region.ready md ops listed = [] ∧ Q .normal a w
  | fuel + 1, listed, a, w =>
    (Region.ready md ops listed = [] → Q .normal a w) ∧
    ∀ i ∈ Region.ready md ops listed, wpOp P ops Q i (fun a' w' => (C w → i ∉ T → C w') ∧ wpAnyT P md ops Q C T fuel (listed.setIfInBounds i true) a' w') a w

theorem wpAny_of_T : ∀ (fuel : Nat) (listed : Array Bool) (a : Act) (w : World), wpAnyT P md ops Q C T fuel listed a w → wpAny P md ops Q fuel listed a w
  | 0, _, _, _, h => h
  | fuel + 1, _, _, _, h => ⟨h.1, fun i hi => wpOp_mono (fun a' w' h' => wpAny_of_T fuel _ a' w' h'.2) (h.2 i hi)⟩

/-- what has come up has come up behind what it waits for -/
def ClosedL (md : Region.Mode) (ops : Array Oper) (listed : Array Bool) : Prop :=
  ∀ j oj, ops[j]? = some oj → listed.getD j false = true → ∀ e ∈ oj.after, Region.binds md e = true → listed.getD e.on false = true

theorem ClosedL.set {i : Nat} {listed : Array Bool} (inv : ClosedL md ops listed) (hi : i ∈ Region.ready md ops listed) : ClosedL md ops (listed.setIfInBounds i true) := by
  obtain ⟨_, oi, hoi, hall⟩ := mem_ready.1 hi
  intro j oj hj hl e he hb
  by_cases hij : i = j
  · subst hij
    have : oj = oi := Option.some.inj (hj.symm.trans hoi)
    subst this
    exact getD_set_true (hall e he hb)
  · rw [getD_set_ne false hij] at hl
    exact getD_set_true (inv j oj hj hl e he hb)

/-- those of the first n that wait for i, at once or through others -/
def downs (md : Region.Mode) (ops : Array Oper) (i : Nat) : Nat → List Nat
  | 0 => []
  | n + 1 => if Region.waitsFor md ops n i || (downs md ops i n).any (fun k => Region.waitsFor md ops n k) then n :: downs md ops i n else downs md ops i n

theorem downs_spec {listed : Array Bool} {i : Nat} (inv : ClosedL md ops listed) : ∀ (n t : Nat), t ∈ downs md ops i n → (∀ ot, ops[t]? = some ot → ∀ e ∈ ot.after, Region.binds md e = true → listed.getD e.on false = true) → listed.getD i false = true
  | 0, t, h, _ => by cases h
  | n + 1, t, h, hd => by
    unfold downs at h
    split at h
    · rename_i hc
      rcases List.mem_cons.1 h with h | h
      · rw [h] at hd
        rcases (Bool.or_eq_true _ _).mp hc with hc | hc
        · obtain ⟨ot, hot, e, he, hb, hon⟩ := Region.waitsFor_spec hc
          exact hon ▸ hd ot hot e he hb
        · obtain ⟨k, hk, hc⟩ := List.any_eq_true.1 hc
          obtain ⟨ot, hot, e, he, hb, hon⟩ := Region.waitsFor_spec hc
          have hk2 : listed.getD k false = true := hon ▸ hd ot hot e he hb
          exact downs_spec inv n k hk fun ok hok e he hb => inv k ok hok hk2 e he hb
      · exact downs_spec inv n t h hd
    · exact downs_spec inv n t h hd

theorem wpAnyT_first {i : Nat} {oi : Oper} {v : Value} {b : Bool} (hi : ops[i]? = some oi) (hsel : ∀ (j : Nat) (o : Oper) cs b, ops[j]? = some o → o.op ≠ .select cs b)
    (hQ : ∀ c a w, Q (.panic c) (a.put oi.dst v) w → Q (.panic c) a w) (hT : b = true → ∀ t ∈ T, t ∈ downs md ops i ops.size) :
    ∀ (fuel : Nat) (listed : Array Bool) (a : Act) (w : World), ClosedL md ops listed →
      (∀ j oj, ops[j]? = some oj → j ≠ i → listed.getD j true = false → (∀ e ∈ oj.after, Region.binds md e = true → e.on ≠ i) → oi.apart ops oj = true) →
      i ∈ Region.ready md ops listed → YieldsIf P ops (fun w => b = true → C w) oi v a → (b = true → C w) →
      wpAnyT P md ops Q C T fuel (listed.setIfInBounds i true) (a.put oi.dst v) w → wpAnyT P md ops Q C T (fuel + 1) listed a w := by
  intro fuel
  induction fuel with
  | zero =>
    intro listed a w inv _ hr hy hS H
    refine ⟨fun h => (by rw [h] at hr; cases hr), fun j hj => ?_⟩
    by_cases hji : j = i
    · subst hji; exact hy.wpOp hi hS ⟨fun h _ => h, H⟩
    · have := ready_mono hj hji
      rw [H.1] at this
      cases this
  | succ fuel ih =>
    intro listed a w inv hfree hr hy hS H
    refine ⟨fun h => (by rw [h] at hr; cases hr), fun j hj => ?_⟩
    by_cases hji : j = i
    · subst hji; exact hy.wpOp hi hS ⟨fun h _ => h, H⟩
    · have h1 := H.2 j (ready_mono hj hji)
      obtain ⟨hjun, oj, hoj, hall⟩ := mem_ready.1 hj
      have hiun := getD_both (mem_ready.1 hr).1
      have hjT : b = true → j ∉ T := fun hb hjT => by
        have := downs_spec inv ops.size j (hT hb j hjT) (fun ot hot e he hb => by
          have : ot = oj := Option.some.inj (hot.symm.trans hoj)
          subst this
          exact hall e he hb)
        rw [hiun] at this
        cases this
      have hnot : ∀ e ∈ oj.after, Region.binds md e = true → e.on ≠ i := fun e he hb heq => by
        have h1 := hall e he hb
        rw [heq, hiun] at h1
        cases h1
      have h2 := wpOp_putIf hoj (hfree j oj hoj hji hjun hnot) (fun cs b => hsel i oi cs b hi) (fun cs b => hsel j oj cs b hoj) hQ hy h1
      have hfree' : ∀ k ok, ops[k]? = some ok → k ≠ i → (listed.setIfInBounds j true).getD k true = false →
          (∀ e ∈ ok.after, Region.binds md e = true → e.on ≠ i) → oi.apart ops ok = true := fun k ok hk hki hun hno => by
        refine hfree k ok hk hki ?_ hno
        by_cases hjk : j = k
        · subst hjk; exact hjun
        · rw [getD_set_ne true hjk] at hun; exact hun
      refine wpOp_mono (fun a' w' h3 => ⟨h3.2.1, ih (listed.setIfInBounds j true) a' w' (inv.set hj) hfree' (ready_mono hr (Ne.symm hji)) h3.1 (fun hb => h3.2.1 (hS hb) (hjT hb)) ?_⟩) h2
      rw [Array.setIfInBounds_comm _ _ hji]
      exact h3.2.2

/-- one value, in every world of the class (in every world at all, if b is false); the world stays -/
def Oper.still1 (P : Program) (o : Oper) (a : Act) (C : World → Prop) (b : Bool) (next : Act → Prop) : Prop := ∃ v, (∀ w, (b = true → C w) → (execOp a.eval o).run P w = .ok (.value v) w) ∧ next (a.put o.dst v)

/-- the operations that are taken first, one by one -/
def wpHd (P : Program) (ops : Array Oper) (C : World → Prop) (L : Act → Prop) : List (Oper × Bool) → Act → Prop
  | [], a => L a
  | o :: rest, a => if Region.wanted o.1 (yielded ops a.tmps) then Oper.still1 P o.1 a C o.2 (wpHd P ops C L rest) else wpHd P ops C L rest (a.put o.1.dst undef)
theorem wpHd_nil {L : Act → Prop} {a : Act} (h : L a) : wpHd P ops C L [] a := h
theorem wpHd_step {L : Act → Prop} {a : Act} {o : Oper} {b : Bool} {rest : List (Oper × Bool)}
    (h : ∀ K : Act → Prop, (∀ a, wpHd P ops C L rest a → K a) → if Region.wanted o (yielded ops a.tmps) then Oper.still1 P o a C b K else K (a.put o.dst undef)) : wpHd P ops C L ((o, b) :: rest) a :=
  h _ (fun _ h => h)

/-- these may be taken first, in this order; true: a load, under the class -/
def headOK (md : Region.Mode) (ops : Array Oper) (T : List Nat) : List (Nat × Bool) → Array Bool → Bool
  | [], _ => true
  | i :: l, listed => (Region.ready md ops listed).contains i.1 && Region.free md ops listed i.1 && (!i.2 || T.all (fun t => (downs md ops i.1 ops.size).contains t)) && headOK md ops T l (listed.setIfInBounds i.1 true)
def listAll : List (Nat × Bool) → Array Bool → Array Bool
  | [], listed => listed
  | i :: l, listed => listAll l (listed.setIfInBounds i.1 true)
def pick (ops : Array Oper) (hd : List Nat) : List Oper := hd.filterMap fun i => ops[i]?
def pickB (ops : Array Oper) (hd : List (Nat × Bool)) : List (Oper × Bool) := hd.filterMap fun i => ops[i.1]?.map fun o => (o, i.2)

theorem wpAnyT_head (hsel : Region.noSelect ops = true) (hQ : ∀ c a d v w, Q (.panic c) (Act.put a d v) w → Q (.panic c) a w) {fuel : Nat} {w : World} (hC : C w) :
    ∀ (hd : List (Nat × Bool)) (listed : Array Bool) (a : Act), ClosedL md ops listed → headOK md ops T hd listed = true → wpHd P ops C (fun a' => wpAnyT P md ops Q C T fuel (listAll hd listed) a' w) (pickB ops hd) a → wpAnyT P md ops Q C T (fuel + hd.length) listed a w
  | [], listed, a, _, _, h => h
  | (i, b) :: l, listed, a, inv, hB, h => by
    simp only [headOK, Bool.and_eq_true] at hB
    obtain ⟨⟨⟨hr, hf⟩, hT⟩, hB'⟩ := hB
    have hr' : i ∈ Region.ready md ops listed := by simpa using hr
    obtain ⟨_, oi, hi, _⟩ := mem_ready.1 hr'
    have hT' : b = true → ∀ t ∈ T, t ∈ downs md ops i ops.size := fun hb t ht => by
      subst hb
      simp only [Bool.not_true, Bool.false_or] at hT
      have := List.all_eq_true.1 hT t ht
      simpa using this
    have hp : pickB ops ((i, b) :: l) = (oi, b) :: pickB ops l := by simp [pickB, hi]
    rw [hp] at h
    have ih := fun a' => wpAnyT_head (fuel := fuel) hsel hQ hC l (listed.setIfInBounds i true) a' (inv.set hr') hB'
    have key : ∀ v, YieldsIf P ops (fun w => b = true → C w) oi v a → wpHd P ops C (fun a' => wpAnyT P md ops Q C T fuel (listAll l (listed.setIfInBounds i true)) a' w) (pickB ops l) (a.put oi.dst v) → wpAnyT P md ops Q C T (fuel + ((i, b) :: l).length) listed a w := fun v hy h2 =>
      wpAnyT_first hi (Region.noSelect_spec hsel) (fun c a w h => hQ c a _ _ w h) hT' _ listed a w inv (Region.free_spec hi hf) hr' hy (fun _ => hC) (ih _ h2)
    by_cases hw : Region.wanted oi (yielded ops a.tmps) = true
    · simp only [wpHd, hw, if_true] at h
      obtain ⟨v, h1, h2⟩ := h
      exact key v (.inl ⟨hw, h1⟩) h2
    · simp only [wpHd, hw, if_false] at h
      exact key undef (.inr ⟨by simpa using hw, rfl⟩) h

/-- the beginning: these are taken first; the rest in whatever order -/
theorem wp_region_head {id : Nat} {a : Act} {w : World} {l : List Oper} (C : World → Prop) (T : List Nat) (hd : List (Nat × Bool)) (hm : P.follows .mixedOrders = true) (hsel : Region.noSelect l.toArray = true) (hQ : ∀ c a d v w, Q (.panic c) (Act.put a d v) w → Q (.panic c) a w) (hC : C w.drew)
    (n : Nat) (hn : n + hd.length = l.length) (hB : headOK .any l.toArray T hd (Array.replicate l.length false) = true)
    (h : wpHd P l.toArray C (fun a' => wpAnyT P .any l.toArray Q C T n (listAll hd (Array.replicate l.length false)) a' w.drew) (pickB l.toArray hd) a) : (Code.region id l.toArray true).wp P Q a w := by
  refine wp_region_any hm (wpAny_of_T (C := C) (T := T) _ _ _ _ ?_)
  have h2 := wpAnyT_head (md := .any) (ops := l.toArray) (T := T) hsel hQ hC hd (Array.replicate l.length false) a (fun j oj _ hl => by rw [getD_replicate_false] at hl; cases hl) hB h
  rw [hn] at h2
  simpa using h2

/-- whichever comes up -/
def AllReadyT (P : Program) (md : Region.Mode) (ops : Array Oper) (Q : Exit → Act → World → Prop) (C : World → Prop) (T : List Nat) (fuel : Nat) (listed : Array Bool) (a : Act) (w : World) (rs : List Nat) : Prop :=
  ∀ i ∈ rs, wpOp P ops Q i (fun a' w' => (C w → i ∉ T → C w') ∧ wpAnyT P md ops Q C T fuel (listed.setIfInBounds i true) a' w') a w
theorem AllReadyT.nil {fuel : Nat} {listed : Array Bool} {a : Act} {w : World} : AllReadyT P md ops Q C T fuel listed a w [] := fun _ h => by cases h
theorem AllReadyT.cons {fuel : Nat} {listed : Array Bool} {a : Act} {w : World} {i : Nat} {o : Oper} {rs : List Nat} (ho : ops[i]? = some o)
    (h : ∀ K : Act → World → Prop, (∀ a' w', (C w → i ∉ T → C w') → wpAnyT P md ops Q C T fuel (listed.setIfInBounds i true) a' w' → K a' w') → if Region.wanted o (yielded ops a.tmps) = true then Oper.wp P o a w K Q else K (a.put o.dst undef) w)
    (hs : AllReadyT P md ops Q C T fuel listed a w rs) : AllReadyT P md ops Q C T fuel listed a w (i :: rs) := fun j hj => by
  rcases List.mem_cons.1 hj with e | hj
  · rw [e]
    have := h (fun a' w' => (C w → i ∉ T → C w') ∧ wpAnyT P md ops Q C T fuel (listed.setIfInBounds i true) a' w') (fun a' w' h1 h2 => ⟨h1, h2⟩)
    unfold wpOp
    simp only [ho]
    split
    · rename_i hw; simp only [hw, if_true] at this; exact .inl this
    · rename_i hw; simp only [hw] at this; exact this
  · exact hs j hj
theorem wpAnyT_ready {fuel : Nat} {listed : Array Bool} {a : Act} {w : World} (rs : List Nat) (hr : Region.ready md ops listed = rs) (hne : rs ≠ []) (h : AllReadyT P md ops Q C T fuel listed a w rs) : wpAnyT P md ops Q C T (fuel + 1) listed a w :=
  ⟨fun h0 => absurd (hr ▸ h0) hne, hr ▸ h⟩
theorem wpAnyT_done {listed : Array Bool} {a : Act} {w : World} (hr : Region.ready md ops listed = []) (h : Q .normal a w) : wpAnyT P md ops Q C T 0 listed a w := ⟨hr, h⟩
/-- one line of operations, all of T -/
def lineOK (md : Region.Mode) (ops : Array Oper) (T : List Nat) : List Nat → Array Bool → Bool
  | [], listed => (Region.ready md ops listed).isEmpty
  | i :: l, listed => decide (Region.ready md ops listed = [i]) && T.contains i && lineOK md ops T l (listed.setIfInBounds i true)
theorem wpAnyT_line : ∀ (L : List Nat) (listed : Array Bool) (a : Act) (w : World), lineOK md ops T L listed = true → wpList P ops Q (pick ops L) a w → wpAnyT P md ops Q C T L.length listed a w
  | [], listed, a, w, hB, h => ⟨by simpa [lineOK] using hB, h⟩
  | i :: l, listed, a, w, hB, h => by
    simp only [lineOK, Bool.and_eq_true, decide_eq_true_eq] at hB
    obtain ⟨⟨hr, hT⟩, hB'⟩ := hB
    have hr' : i ∈ Region.ready md ops listed := by rw [hr]; simp
    have hT' : i ∈ T := by simpa using hT
    obtain ⟨_, oi, hi, _⟩ := mem_ready.1 hr'
    have hp : pick ops (i :: l) = oi :: pick ops l := by simp [pick, hi]
    rw [hp] at h
    refine ⟨fun h1 => (by rw [hr] at h1; cases h1), fun j hj => ?_⟩
    rw [hr] at hj
    have hji : j = i := by simpa using hj
    rw [hji]
    have hw : wpOp P ops Q i (wpList P ops Q (pick ops l)) a w := by unfold wpOp; simp only [hi]; exact h
    exact wpOp_mono (fun a' w' h' => ⟨fun _ h9 => absurd hT' h9, wpAnyT_line l _ a' w' hB' h'⟩) hw

/-- the same as ClosedL, to be decided -/
def closedB (md : Region.Mode) (ops : Array Oper) (listed : Array Bool) : Bool :=
  (List.range ops.size).all fun j => !listed.getD j false || ((ops[j]?.map fun o => o.after.toList.all fun e => !Region.binds md e || listed.getD e.on false).getD true)
theorem ClosedL.of {listed : Array Bool} (h : closedB md ops listed = true) : ClosedL md ops listed := by
  intro j oj hj hl e he hb
  have hjs : j < ops.size := (Array.getElem?_eq_some_iff.1 hj).1
  have h1 := List.all_eq_true.1 h j (List.mem_range.2 hjs)
  rw [hl, hj] at h1
  simp only [Bool.not_true, Bool.false_or, Option.map_some, Option.getD_some] at h1
  have h2 := List.all_eq_true.1 h1 e (by simpa using he)
  rw [hb] at h2
  simpa using h2

/-- further on: these are taken next -/
theorem wpAnyT_next {fuel n : Nat} {w : World} {listed : Array Bool} {a : Act} (hd : List (Nat × Bool)) (hsel : Region.noSelect ops = true) (hQ : ∀ c a d v w, Q (.panic c) (Act.put a d v) w → Q (.panic c) a w) (hC : C w) (hc : closedB md ops listed = true)
    (hB : headOK md ops T hd listed = true) (hn : n = fuel + hd.length) (h : wpHd P ops C (fun a' => wpAnyT P md ops Q C T fuel (listAll hd listed) a' w) (pickB ops hd) a) : wpAnyT P md ops Q C T n listed a w := by
  subst hn
  exact wpAnyT_head hsel hQ hC hd listed a (ClosedL.of hc) hB h
end

/-- a world that holds something -/
structure HeldW (F : World → Prop) where
  W : World
  h : F W
end Go.Proofs.YtggfdlanobndjaaGreat

/- cascade.down: from a node down; what a closure is told. -/
namespace Go.Proofs.YtggfdlanobndjaaGreat
open Go.RowKit Go.Sort Go.Shelf Go.Lib Go.Maps
attribute [local irreducible] wpQuiet
attribute [local go_sem] Oper.still1
set_option linter.unusedSimpArgs false
set_option linter.unusedVariables false

/-- a cascade's nodes and lists, as they lie -/
structure DnAt (w : World) (tb : Nat) (N : List Nd) (nm : Nat → Int) (YS : List Nat) (LN LL : Nat → Value) : Prop where
  nod : ∃ gn off cn, w.cell? ⟨tb, 4, none⟩ = some (.slice (some ⟨gn, off, none⟩) N.length cn) ∧ RdK eNd 7 w (some ⟨gn, off, none⟩) N
  lst : ∃ gl cl, w.cell? ⟨tb, 5, none⟩ = some (.slice (some ⟨gl, 0, none⟩) N.length cl) ∧ gl < w.heap.size ∧ ∀ k, k < N.length → w.cell? ⟨gl, k * 2, none⟩ = some (LN k) ∧ w.cell? ⟨gl, k * 2 + 1, none⟩ = some (LL k)
  nam : ∀ t s, FT.At N t s → ∃ a c, LN (t.root s) = .slice a (nl YS t).length c ∧ (nl YS t).length ≤ c ∧ Rd (.int .u32) w a ((nl YS t).map nm)
  lef : ∀ l r s, FT.At N (.node l r) s → ∃ a c, LL ((FT.node l r).root s) = .slice a (lf l.hi (nl YS (.node l r))).length c ∧ Rd (.int .i64) w a (lf l.hi (nl YS (.node l r)))
  sli : ∀ k, k < N.length → ∃ a m c, LL k = .slice a m c

theorem DnAt.below {w w' : World} {tb B : Nat} {N : List Nd} {nm : Nat → Int} {YS : List Nat} {LN LL : Nat → Value} (h : DnAt w tb N nm YS LN LL) (hb : Below B w w') (hB : w.heap.size ≤ B) : DnAt w' tb N nm YS LN LL := by
  have hb := hb.mono hB
  obtain ⟨⟨gn, off, cn, c4, r4⟩, ⟨gl, cl, c5, hl, h5⟩, hn, hf, hs⟩ := h
  have ht := World.block_lt_of_cell? w _ c4
  exact ⟨⟨gn, off, cn, (hb.cell (p := ⟨tb, 4, none⟩) ht).trans c4, r4.below hb⟩,
    ⟨gl, cl, (hb.cell (p := ⟨tb, 5, none⟩) ht).trans c5, Nat.lt_of_lt_of_le hl hb.size, fun k hk => ⟨(hb.cell (p := ⟨gl, k * 2, none⟩) hl).trans (h5 k hk).1, (hb.cell (p := ⟨gl, k * 2 + 1, none⟩) hl).trans (h5 k hk).2⟩⟩,
    fun t s ha => by obtain ⟨a, c, e, hc, r⟩ := hn t s ha; exact ⟨a, c, e, hc, r.below hb⟩, fun l r s ha => by obtain ⟨a, c, e, r⟩ := hf l r s ha; exact ⟨a, c, e, r.below hb⟩, hs⟩

/-- what a closure does that is told of lists: it keeps a state, and writes the blocks D alone -/
structure Told (F : Nat) (cb : Array Value) (N : List Nd) (YS : List Nat) (LN LL : Nat → Value) (B : Nat) (w0 : World) (FL : List Nat) (S : World → List Nat → (Nat → Prop) → Prop) : Prop where
  enters : ∀ args w, (callFunc F args).run Tryz.prog w = .ok (.enter F args) w
  base : ∀ W acc D, S W acc D → Below B w0 W
  lt : ∀ W acc D, S W acc D → ∀ k, D k → B ≤ k ∧ k < W.heap.size
  stable : ∀ W W' acc D, S W acc D → Below W.heap.size W W' → S W' acc D
  told : ∀ W acc D t s a b, S W acc D → FT.At N t s → a ≤ b → b ≤ (nl YS t).length → acc ++ ((nl YS t).take b).drop a <+: FL →
    Calls Tryz.prog F (#[.agg #[LN (t.root s), LL (t.root s)], .int .i64 (a : Nat), .int .i64 (b : Nat)] ++ cb) W fun e w' => e = .returned (.tuple #[]) ∧ ∃ D', S w' (acc ++ ((nl YS t).take b).drop a) D' ∧ (∀ k, D' k → D k ∨ W.heap.size ≤ k) ∧ KpS D W w'

/-- a world in which blocks outside a set are as before -/
structure KeptW (D : Nat → Prop) (w : World) where
  W : World
  h : KpS D w W

def DnP (S : World → List Nat → (Nat → Prop) → Prop) (W : World) (D : Nat → Prop) (acc : List Nat) (n : Nat) (e : Ending) (w' : World) : Prop :=
  e = .returned (.int .i64 n) ∧ ∃ D', S w' acc D' ∧ (∀ k, D' k → D k ∨ W.heap.size ≤ k) ∧ KpS D W w'

theorem enters_down : ∀ args w, (callFunc 94 args).run Tryz.prog w = .ok (.enter 94 args) w := enters_of Tryz.func94 (by kernel_rfl) rfl

/-- all cells of a node -/
theorem nd_all {w : World} {g off : Nat} {N : List Nd} {i : Nat} {d : Nd} (h : RdK eNd 7 w (some ⟨g, off, none⟩) N) (hi : N[i]? = some d) :
    g < w.heap.size ∧ w.cell? ⟨g, off + i * 7, none⟩ = some (.int .u8 d.kind) ∧ w.cell? ⟨g, off + i * 7 + 1, none⟩ = some (.int .i64 d.l) ∧ w.cell? ⟨g, off + i * 7 + 2, none⟩ = some (.int .i64 d.r) ∧ w.cell? ⟨g, off + i * 7 + 3, none⟩ = some (.int .i64 d.fr) ∧ w.cell? ⟨g, off + i * 7 + 4, none⟩ = some (.int .i64 d.til) ∧ w.cell? ⟨g, off + i * 7 + 5, none⟩ = some (.int .i64 0) ∧ w.cell? ⟨g, off + i * 7 + 6, none⟩ = some (.int .i64 d.item) := by
  obtain ⟨hl, hd⟩ := List.getElem?_eq_some_iff.1 hi
  rcases h with h | ⟨b, o, e, hb, hc⟩
  · subst h; simp at hl
  · cases e
    have c := hc i hl
    rw [hd] at c
    exact ⟨hb, c 0 (by omega), c 1 (by omega), c 2 (by omega), c 3 (by omega), c 4 (by omega), c 5 (by omega), c 6 (by omega)⟩

theorem w64_in (n : Int) (h : -9223372036854775808 ≤ n ∧ n ≤ 9223372036854775807) : wrap64 n = n := by unfold wrap64; omega

theorem down_size {YS : List Nat} {yv : Nat → Int} {y1 y2 : Int} {fr ub : Nat} : ∀ t : FT, (down YS yv y1 y2 fr ub t).2 ≤ t.size
  | .leaf a => by
    rw [down]
    split <;> exact Nat.le_refl _
  | .node l r => by
    have h1 := down_size (YS := YS) (yv := yv) (y1 := y1) (y2 := y2) (fr := fr) (ub := ub) l
    have h2 := down_size (YS := YS) (yv := yv) (y1 := y1) (y2 := y2) (fr := fr) (ub := ub) r
    have h3 : (FT.node l r).size = l.size + r.size + 1 := rfl
    rw [down]
    split
    · show 1 ≤ _; omega
    · split
      · show 1 ≤ _; omega
      · show 1 + _ + _ ≤ _; omega

set_option maxRecDepth 100000 in
set_option maxHeartbeats 4000000 in
theorem casc_down1 (F : Nat) (cb : Array Value) (N : List Nd) (nm : Nat → Int) (YS : List Nat) (LN LL : Nat → Value) (tb B : Nat) (w0 : World) (S : World → List Nat → (Nat → Prop) → Prop) (yv : Nat → Int) (y1 y2 : Int) (fr ub : Nat)
    (HB : w0.heap.size ≤ B) (FL : List Nat) (hT : Told F cb N YS LN LL B w0 FL S) (hA : DnAt w0 tb N nm YS LN LL) (hs : YS.Pairwise fun i k => yv i ≤ yv k) (hy : y1 ≤ y2) (hN : N.length ≤ 1000000) (hYS : YS.length ≤ 1000000) (hfr : fr ≤ 1000000) (hto : ub ≤ 1000000)
    (t : FT) (s : Nat) (W : World) (acc : List Nat) (D : Nat → Prop) (ha : FT.At N t s) (hw : t.wf) (hhi : t.hi ≤ 1000000) (hS : S W acc D) (hFL : acc ++ (down YS yv y1 y2 fr ub t).1 <+: FL)
    (hrec : ∀ l r, t = .node l r → (∀ W acc D, S W acc D → acc ++ (down YS yv y1 y2 fr ub l).1 <+: FL →
      Calls Tryz.prog 94 #[.pointer (some ⟨tb, 0, none⟩), .int .i64 (l.root s : Nat), .int .i64 (below yv y1 (nl YS l) : Nat), .int .i64 (upto yv y2 (nl YS l) : Nat), .agg #[.int .i64 fr, .int .i64 ub, .func (.func F) #[] cb]] W (DnP S W D (acc ++ (down YS yv y1 y2 fr ub l).1) (down YS yv y1 y2 fr ub l).2)) ∧
      ∀ W acc D, S W acc D → acc ++ (down YS yv y1 y2 fr ub r).1 <+: FL → Calls Tryz.prog 94 #[.pointer (some ⟨tb, 0, none⟩), .int .i64 (r.root (s + l.size) : Nat), .int .i64 (below yv y1 (nl YS r) : Nat), .int .i64 (upto yv y2 (nl YS r) : Nat), .agg #[.int .i64 fr, .int .i64 ub, .func (.func F) #[] cb]] W (DnP S W D (acc ++ (down YS yv y1 y2 fr ub r).1) (down YS yv y1 y2 fr ub r).2)) :
    Calls Tryz.prog 94 #[.pointer (some ⟨tb, 0, none⟩), .int .i64 (t.root s : Nat), .int .i64 (below yv y1 (nl YS t) : Nat), .int .i64 (upto yv y2 (nl YS t) : Nat), .agg #[.int .i64 fr, .int .i64 ub, .func (.func F) #[] cb]] W (DnP S W D (acc ++ (down YS yv y1 y2 fr ub t).1) (down YS yv y1 y2 fr ub t).2) := by
  obtain ⟨⟨gn, off, cn, c4, r4⟩, ⟨gl, cl, c5, hl, h5⟩, hn, hf, hsl⟩ := hA.below (hT.base W acc D hS) HB
  have hget := ha.get
  have hlt := ha.lt
  obtain ⟨an, cnn, eLN, -⟩ := hn _ _ ha
  obtain ⟨al, ml, cll, eLL⟩ := hsl _ hlt
  obtain ⟨l50, l51⟩ := h5 _ hlt
  obtain ⟨hgn, n0, n1, n2, n3, n4, n5, n6⟩ := nd_all r4 hget
  rw [FT.top_fr] at n3
  rw [FT.top_to] at n4
  have hlh := FT.lo_hi t hw
  have hab := upto_len (yv := yv) (L := nl YS t) (y := y2)
  have hba := below_len (yv := yv) (L := nl YS t) (y := y1)
  have hnl : (nl YS t).length ≤ YS.length := List.length_filter_le _ _
  rw [eLN] at l50
  rw [eLL] at l51
  obtain ⟨a, hae⟩ : ∃ a, a = below yv y1 (nl YS t) := ⟨_, rfl⟩
  obtain ⟨b, hbe⟩ : ∃ b, b = upto yv y2 (nl YS t) := ⟨_, rfl⟩
  rw [← hbe] at hab
  rw [← hae] at hba
  have hsz1 : ∃ hi lo : Nat, hi = t.hi ∧ lo = t.lo := ⟨_, _, rfl, rfl⟩
  obtain ⟨hi, lo, ehi, elo⟩ := hsz1
  rw [← ehi] at n4 hhi hlh
  rw [← elo] at n3 hlh
  obtain ⟨K, hK⟩ : ∃ K, K = t.root s := ⟨_, rfl⟩
  obtain ⟨d, hd⟩ : ∃ d, d = t.top s := ⟨_, rfl⟩
  rw [← hd] at n0 n1 n2 n6
  rw [← hK] at l50 l51 n0 n1 n2 n3 n4 n5 n6 hlt
  have HE : Hid (a = below yv y1 (nl YS t) ∧ b = upto yv y2 (nl YS t) ∧ hi = t.hi ∧ lo = t.lo ∧ K = t.root s ∧ d = t.top s ∧ (nl YS t).length ≤ 1000000) := ⟨hae, hbe, ehi, elo, hK, hd, by omega⟩
  rw [← hae, ← hbe, ← hK]
  have hbl : a ≤ 1000000 ∧ b ≤ 1000000 := by omega
  clear hae hbe ehi elo hK hd hget hab hba hnl
  have HS := Lib.hid hS
  have HAA := Lib.hid hA
  have HREC := Lib.hid hrec
  have HSB := Lib.hid (hT.base W acc D hS)
  have htl := World.block_lt_of_cell? W _ c4
  simp only at htl
  have HLL := Lib.hid eLL
  have HLN := Lib.hid eLN
  obtain ⟨nn, hnn⟩ : ∃ nn, nn = (nl YS t).length := ⟨_, rfl⟩
  rw [← hnn] at l50
  have HNN := Lib.hid hnn
  clear eLL eLN hS hA hrec hsl hn hf r4 h5 hnn
  obtain ⟨R, hR⟩ : ∃ R, R = down YS yv y1 y2 fr ub t := ⟨_, rfl⟩
  rw [← hR]
  rw [← hR] at hFL
  have HR := Lib.hid hR
  have HFL := Lib.hid hFL
  clear hFL
  clear hR
  go_enter Tryz.func94, Tryz.ntmps94
  go_upto_region 1 with fail
  obtain ⟨w1, ew1⟩ : ∃ w1, w1 = W.alloc (.cells #[.int .i64 fr, .int .i64 ub, .func (.func F) #[] cb] 168) := ⟨_, rfl⟩
  have HP1 : Hid (w1.heap[W.heap.size]? = some (.cells #[.int .i64 fr, .int .i64 ub, .func (.func F) #[] cb] 168 (0, 0))) := by rw [ew1]; exact lit0 W _
  have HB1 : Hid (Below W.heap.size W w1) := by rw [ew1]; exact (Below.refl _ _).alloc (Nat.le_refl _) _
  have hz1 : W.heap.size < w1.heap.size := by rw [ew1]; simp
  rw [← ew1]
  clear ew1
  go_cut [11, 12] from 11 (fun v11 v12 wx => ∃ x y : Nat, v11 = .pointer (some ⟨x, 0, none⟩) ∧ v12 = .pointer (some ⟨y, 0, none⟩) ∧ Hid (wx.heap[x]? = some (.cells #[.int .u8 d.kind, .int .i64 d.l, .int .i64 d.r, .int .i64 lo, .int .i64 hi, .int .i64 0, .int .i64 d.item] 119 (0, 0))) ∧
    Hid (wx.heap[y]? = some (.cells #[.slice an nn cnn, .slice al ml cll] 112 (0, 0))) ∧ Hid (Below w1.heap.size w1 wx) ∧ w1.heap.size ≤ x ∧ w1.heap.size ≤ y)
  case first =>
    have hb1 := HB1.out
    have g4 := cell_belowW ((hb1.cell (p := ⟨tb, 4, none⟩) htl).trans c4)
    have g5 := cell_belowW ((hb1.cell (p := ⟨tb, 5, none⟩) htl).trans c5)
    have k0 := cell_belowW ((hb1.cell (p := ⟨gn, off + K * 7, none⟩) hgn).trans n0)
    have k1 := cell_belowW ((hb1.cell (p := ⟨gn, off + K * 7 + 1, none⟩) hgn).trans n1)
    have k2 := cell_belowW ((hb1.cell (p := ⟨gn, off + K * 7 + 2, none⟩) hgn).trans n2)
    have k3 := cell_belowW ((hb1.cell (p := ⟨gn, off + K * 7 + 3, none⟩) hgn).trans n3)
    have k4 := cell_belowW ((hb1.cell (p := ⟨gn, off + K * 7 + 4, none⟩) hgn).trans n4)
    have k5 := cell_belowW ((hb1.cell (p := ⟨gn, off + K * 7 + 5, none⟩) hgn).trans n5)
    have k6 := cell_belowW ((hb1.cell (p := ⟨gn, off + K * 7 + 6, none⟩) hgn).trans n6)
    have j0 := cell_belowW ((hb1.cell (p := ⟨gl, K * 2, none⟩) hl).trans l50)
    have j1 := cell_belowW ((hb1.cell (p := ⟨gl, K * 2 + 1, none⟩) hl).trans l51)
    clear hb1 c4 c5 n0 n1 n2 n3 n4 n5 n6 l50 l51
    refine wp_region_head (fun W => ∃ p : BelowW w1, W = p.W) [17] [(0, false), (1, false), (2, false), (3, true), (4, false), (5, false), (6, true), (7, false), (8, false), (9, false), (10, true), (11, false), (12, false), (13, true)] (by kernel_rfl) (by kernel_rfl) (fun _ _ d _ _ h => by cases d <;> exact h) ⟨⟨_, (Below.refl _ _).drew⟩, rfl⟩ 4 rfl (by kernel_rfl) ?_
    simp only [pickB, List.filterMap_cons, List.filterMap_nil, List.getElem?_toArray, List.getElem?_cons_succ, List.getElem?_cons_zero, Option.map_some]
    repeat (refine wpHd_step (fun K hK => ?_); go_simp; first | (refine hK _ ?_; clear hK K) | (apply Exists.intro; refine ⟨fun _ => ?_, hK _ ?_⟩; rfl; clear hK K))
    refine wpHd_nil ?_
    refine wpAnyT_ready [14, 15] (by kernel_rfl) (by simp) ?_
    refine AllReadyT.cons rfl (fun K hK => ?_) (AllReadyT.cons rfl (fun K hK => ?_) AllReadyT.nil)
    · go_simp
      refine hK _ _ (fun _ _ => ⟨⟨_, (Below.refl _ w1).alloc (Nat.le_refl _) _ |>.drew⟩, rfl⟩) ?_
      clear hK K
      refine wpAnyT_ready [15] (by kernel_rfl) (by simp) ?_
      refine AllReadyT.cons rfl (fun K hK => ?_) AllReadyT.nil
      go_simp
      refine hK _ _ (fun _ _ => ⟨⟨_, ((Below.refl _ w1).alloc (Nat.le_refl _) _).alloc (by simp) _ |>.drew⟩, rfl⟩) ?_
      clear hK K
      refine wpAnyT_ready [16] (by kernel_rfl) (by simp) ?_
      refine AllReadyT.cons rfl (fun K hK => ?_) AllReadyT.nil
      go_simp
      refine hK _ _ (fun _ _ => ⟨⟨_, ((Below.refl _ w1).alloc (Nat.le_refl _) _).alloc (by simp) _ |>.drew⟩, rfl⟩) ?_
      clear hK K
      refine wpAnyT_line [17] _ _ _ (by kernel_rfl) ?_
      simp only [pick, List.filterMap_cons, List.filterMap_nil, List.getElem?_toArray, List.getElem?_cons_succ, List.getElem?_cons_zero]
      go_wp2
      go_meet
      exact ⟨w1.heap.size, w1.heap.size + 1, rfl, rfl, lit1d _ _ _, lit2d _ _ _, ((Below.refl _ w1).alloc (Nat.le_refl _) _).alloc (by simp) _ |>.drew, Nat.le_refl _, by omega⟩
    · go_simp
      refine hK _ _ (fun _ _ => ⟨⟨_, (Below.refl _ w1).alloc (Nat.le_refl _) _ |>.drew⟩, rfl⟩) ?_
      clear hK K
      refine wpAnyT_ready [14] (by kernel_rfl) (by simp) ?_
      refine AllReadyT.cons rfl (fun K hK => ?_) AllReadyT.nil
      go_simp
      refine hK _ _ (fun _ _ => ⟨⟨_, ((Below.refl _ w1).alloc (Nat.le_refl _) _).alloc (by simp) _ |>.drew⟩, rfl⟩) ?_
      clear hK K
      refine wpAnyT_ready [16] (by kernel_rfl) (by simp) ?_
      refine AllReadyT.cons rfl (fun K hK => ?_) AllReadyT.nil
      go_simp
      refine hK _ _ (fun _ _ => ⟨⟨_, ((Below.refl _ w1).alloc (Nat.le_refl _) _).alloc (by simp) _ |>.drew⟩, rfl⟩) ?_
      clear hK K
      refine wpAnyT_line [17] _ _ _ (by kernel_rfl) ?_
      simp only [pick, List.filterMap_cons, List.filterMap_nil, List.getElem?_toArray, List.getElem?_cons_succ, List.getElem?_cons_zero]
      go_wp2
      go_meet
      exact ⟨w1.heap.size + 1, w1.heap.size, rfl, rfl, lit2d _ _ _, lit1d _ _ _, ((Below.refl _ w1).alloc (Nat.le_refl _) _).alloc (by simp) _ |>.drew, by omega, Nat.le_refl _⟩
  case rest =>
    obtain ⟨x, y, rfl, rfl, HX, HY, HBX, hx, hy0⟩ := hcut
    have hpc := (HBX.out.block _ hz1).trans HP1.out
    have hxc := HX.out
    have hyc := HY.out
    have p0 : wc.cell? ⟨W.heap.size, 0, none⟩ = some (.int .i64 fr) := by simp [World.cell?, hpc]
    have p1 : wc.cell? ⟨W.heap.size, 1, none⟩ = some (.int .i64 ub) := by simp [World.cell?, hpc]
    have p2 : wc.cell? ⟨W.heap.size, 2, none⟩ = some (.func (.func F) #[] cb) := by simp [World.cell?, hpc]
    have x0 : wc.cell? ⟨x, 0, none⟩ = some (.int .u8 d.kind) := by simp [World.cell?, hxc]
    have x1 : wc.cell? ⟨x, 1, none⟩ = some (.int .i64 d.l) := by simp [World.cell?, hxc]
    have x2 : wc.cell? ⟨x, 2, none⟩ = some (.int .i64 d.r) := by simp [World.cell?, hxc]
    have x3 : wc.cell? ⟨x, 3, none⟩ = some (.int .i64 lo) := by simp [World.cell?, hxc]
    have x4 : wc.cell? ⟨x, 4, none⟩ = some (.int .i64 hi) := by simp [World.cell?, hxc]
    have y0 : wc.cell? ⟨y, 0, none⟩ = some (.slice an nn cnn) := by simp [World.cell?, hyc]
    have y1' : wc.cell? ⟨y, 1, none⟩ = some (.slice al ml cll) := by simp [World.cell?, hyc]
    have HBW : Hid (Below W.heap.size W wc) := HB1.out.trans (HBX.out.mono HB1.out.size)
    have HSc : Hid (S wc acc D) := hT.stable _ _ _ _ HS.out HBW.out
    have HTT := Lib.hid hT
    clear hxc hyc hpc c4 c5 n0 n1 n2 n3 n4 n5 n6 l50 l51 hT
    have hxl := World.block_lt_of_cell? _ _ x0
    have hyl := World.block_lt_of_cell? _ _ y0
    have hpl := World.block_lt_of_cell? _ _ p0
    by_cases hout : b ≤ a ∨ hi ≤ fr ∨ ub ≤ lo
    · have hdn : down YS yv y1 y2 fr ub t = ([], 1) := by
        obtain ⟨e1, e2, e3, e4, -⟩ := HE.out
        rw [e1, e2, e3, e4] at hout
        exact down_out hout
      have HQ : Hid (DnP S W D (acc ++ R.1) R.2 (.returned (.int .i64 1)) wc) := by
        rw [HR.out, hdn]
        show DnP S W D (acc ++ []) 1 _ _
        rw [List.append_nil]
        exact ⟨rfl, D, HSc.out, fun k h => .inl h, (KpS.refl _ _).below HBW.out⟩
      clear hdn
      have done : True := trivial
      by_cases h1 : b ≤ a
      · have d1 : decide ((a : Int) ≥ (b : Int)) = true := by simp; omega
        have d2 : decide ((b : Int) ≤ (a : Int)) = true := by simp; omega
        have d3 : decide (b ≤ a) = true := by simp; omega
        go_wp2
        go_ret
        exact HQ.out
      · have d1 : decide ((a : Int) ≥ (b : Int)) = false := by simp; omega
        have d2 : decide ((b : Int) ≤ (a : Int)) = false := by simp; omega
        have d3 : decide (b ≤ a) = false := by simp; omega
        by_cases h2 : hi ≤ fr
        · have e1 : decide ((hi : Int) ≤ (fr : Int)) = true := by simp; omega
          have e2 : decide (hi ≤ fr) = true := by simp; omega
          go_wp2
          go_ret
          exact HQ.out
        · have e1 : decide ((hi : Int) ≤ (fr : Int)) = false := by simp; omega
          have e2 : decide (hi ≤ fr) = false := by simp; omega
          have f1 : decide ((lo : Int) ≥ (ub : Int)) = true := by simp; omega
          have f2 : decide ((ub : Int) ≤ (lo : Int)) = true := by simp; omega
          have f3 : decide (ub ≤ lo) = true := by simp; omega
          go_wp2
          go_ret
          exact HQ.out
    · have d1 : decide ((a : Int) ≥ (b : Int)) = false := by simp; omega
      have d2 : decide ((b : Int) ≤ (a : Int)) = false := by simp; omega
      have d3 : decide (b ≤ a) = false := by simp; omega
      have e1 : decide ((hi : Int) ≤ (fr : Int)) = false := by simp; omega
      have e2 : decide (hi ≤ fr) = false := by simp; omega
      have f1 : decide ((lo : Int) ≥ (ub : Int)) = false := by simp; omega
      have f2 : decide ((ub : Int) ≤ (lo : Int)) = false := by simp; omega
      have f3 : decide (ub ≤ lo) = false := by simp; omega
      by_cases hin : fr ≤ lo ∧ hi ≤ ub
      · have g1 : decide ((lo : Int) ≥ (fr : Int)) = true := by simp; omega
        have g2 : decide ((fr : Int) ≤ (lo : Int)) = true := by simp; omega
        have g3 : decide (fr ≤ lo) = true := by simp; omega
        have g4 : decide ((hi : Int) ≤ (ub : Int)) = true := by simp; omega
        have g5 : decide (hi ≤ ub) = true := by simp; omega
        have hdn : down YS yv y1 y2 fr ub t = (((nl YS t).take b).drop a, 1) := by
          obtain ⟨e1, e2, e3, e4, -⟩ := HE.out
          rw [e1, e2, e3, e4] at hout
          rw [e3, e4] at hin
          rw [down_in hout hin, e1, e2]
          congr 1
          exact (slice_btw (hs.filter _) y1 y2 hy).symm
        have HDN := Lib.hid hdn
        have C := HTT.out.told wc acc D t s a b HSc.out ha (by omega) (by rw [HE.out.2.1]; exact upto_len) (by have h9 := HFL.out; rw [HR.out, hdn] at h9; exact h9)
        rw [HLL.out, HLN.out, ← HNN.out] at C
        have eg := HTT.out.enters
        clear hdn
        go_wp2_with (go_at_fn F; refine C.mono ?_; rintro e w' ⟨rfl, D', hS', hD', hK'⟩)
        have HD := Lib.hid hD'
        go_wp2
        go_ret
        have e := HDN.out
        rw [← HR.out] at e
        rw [e]
        exact ⟨rfl, D', hS', fun k h => (HD.out k h).imp id (fun h9 => Nat.le_trans HBW.out.size h9), ((KpS.refl (fun k => D k ∨ W.heap.size ≤ k) W).below HBW.out |>.trans (hK'.mono fun k h => .inl h)).strip⟩
      · have g12 : (decide ((lo : Int) ≥ (fr : Int)) = true ∧ decide ((hi : Int) ≤ (ub : Int)) = false) ∨ decide ((lo : Int) ≥ (fr : Int)) = false := by simp; omega
        obtain ⟨l, r, rfl⟩ : ∃ l r, t = .node l r := by
          cases t with
          | leaf q =>
            obtain ⟨-, -, e3, e4, -⟩ := HE.out
            simp only [FT.hi] at e3
            simp only [FT.lo] at e4
            omega
          | node l r => exact ⟨l, r, rfl⟩
        obtain ⟨al', cll', eLL', rl⟩ := HAA.out.lef l r s ha
        rw [HLL.out] at eLL'
        injection eLL' with ee1 ee2 ee3
        subst ee1 ee2 ee3
        obtain ⟨ia, ib, ihi, ilo, iK, id, iL⟩ := HE.out
        have hdn : down YS yv y1 y2 fr ub (.node l r) = ((down YS yv y1 y2 fr ub l).1 ++ (down YS yv y1 y2 fr ub r).1, 1 + (down YS yv y1 y2 fr ub l).2 + (down YS yv y1 y2 fr ub r).2) := by
          rw [ia, ib, ihi, ilo] at hout
          rw [ihi, ilo] at hin
          exact down_part hout hin
        obtain ⟨br1, br2⟩ := bridge_below (yv := yv) l r hw hs y1
        obtain ⟨bs1, bs2⟩ := bridge_upto (yv := yv) l r hw hs y2
        rw [← ia] at br1 br2
        rw [← ib] at bs1 bs2
        have hal : a < (lf l.hi (nl YS (.node l r))).length := by rw [lf_len, ia]; have := below_len (yv := yv) (L := nl YS (.node l r)) (y := y1); omega
        have hbl2 : b < (lf l.hi (nl YS (.node l r))).length := by rw [lf_len, ib]; have := upto_len (yv := yv) (L := nl YS (.node l r)) (y := y2); omega
        obtain ⟨bb, bo, rfl, hbb, hcc⟩ := rl.get (by omega)
        have q1 := hcc a hal
        have q2 := hcc b hbl2
        rw [lf_get, br1] at q1
        rw [lf_get, bs1] at q2
        have hdl : d.l = ((l.root s : Nat) : Int) := by rw [id]; show ((s + l.size : Nat) : Int) - 1 = _; unfold FT.root; have := l.size_pos; omega
        have hdr : d.r = ((r.root (s + l.size) : Nat) : Int) := by rw [id]; show ((s + l.size + r.size : Nat) : Int) - 1 = _; unfold FT.root; have := r.size_pos; omega
        rw [hdl] at x1
        rw [hdr] at x2
        have hrl := ha.left.lt
        have hrr := ha.right.lt
        have REC := HREC.out l r rfl
        have HDN := Lib.hid hdn
        generalize l.root s = kl at *
        generalize r.root (s + l.size) = kr at *
        generalize below yv y1 (nl YS l) = la at *
        generalize below yv y1 (nl YS r) = ra at *
        generalize upto yv y2 (nl YS l) = lb at *
        generalize upto yv y2 (nl YS r) = rb at *
        clear hcc HLL rl
        generalize (lf l.hi (nl YS (.node l r))).length = ml at *
        have era : (a : Int) - (la : Int) = (ra : Int) := by omega
        have erb : (b : Int) - (lb : Int) = (rb : Int) := by omega
        have HREC2 := Lib.hid REC
        have hbase := HTT.out.base _ _ _ HSc.out
        have q1 := (hbase.cell (p := ⟨bb, bo + a, none⟩) (show bb < B by omega)).trans q1
        have q2 := (hbase.cell (p := ⟨bb, bo + b, none⟩) (show bb < B by omega)).trans q2
        have hDlt := HTT.out.lt _ _ _ HS.out
        have nDx : ¬ D x := fun h => by have := (hDlt x h).2; omega
        have nDy : ¬ D y := fun h => by have := (hDlt y h).2; omega
        have nDp : ¬ D W.heap.size := fun h => by have := (hDlt _ h).2; omega
        have nDb : ¬ D bb := fun h => by have := (hDlt bb h).1; omega
        have hbc : bb < wc.heap.size := by have := hbase.size; omega
        clear hdn hDlt REC br1 bs1 ia ib ihi ilo iK id hdl hdr HREC
        go_upto_block 0 with fail
        go_cut [] from 27 (fun wx => wx = wc)
        case first =>
          rcases g12 with ⟨g1, g2⟩ | g1
          · have g3 : decide ((fr : Int) ≤ (lo : Int)) = true := by simpa using g1
            have g4 : decide (fr ≤ lo) = true := by simpa using g1
            have g5 : decide (hi ≤ ub) = false := by simpa using g2
            go_wp2
            go_meet
            rfl
          · have g3 : decide ((fr : Int) ≤ (lo : Int)) = false := by simpa using g1
            have g4 : decide (fr ≤ lo) = false := by simpa using g1
            go_wp2
            go_meet
            rfl
        case rest =>
          subst hcut
          go_upto_region 7 with fail
          have keep : ∀ {bk o : Nat} {v : Value}, bk < wc.heap.size → ¬ D bk → wc.cell? ⟨bk, o, none⟩ = some v → ∀ p : KeptW D wc, p.W.cell? ⟨bk, o, none⟩ = some v := fun hb hd hv p => ((cellK p.h hb hd).1 _).trans hv
          have m0 := keep hpl nDp p0
          have m1 := keep hpl nDp p1
          have m2 := keep hpl nDp p2
          have m3 := keep hxl nDx x1
          have m4 := keep hxl nDx x2
          have m5 := keep hyl nDy y1'
          have m6 := keep hbc nDb q1
          have m7 := keep hbc nDb q2
          clear keep p0 p1 p2 x0 x1 x2 x3 x4 y0 y1' q1 q2
          refine wp_region_head (fun W => ∃ p : KeptW D wc, W = p.W) [34, 35, 36] [(0, false), (1, false), (2, true), (3, false), (4, true), (5, false), (6, false), (7, true), (8, false), (9, true), (10, false), (11, false), (12, true), (13, true), (16, false), (17, false), (18, true), (19, false), (20, false), (21, true), (22, false), (23, false), (24, true), (25, false), (26, false), (27, false), (28, true), (29, false), (30, false), (31, true), (32, false), (33, true)] (by kernel_rfl) (by kernel_rfl) (fun _ _ d _ _ h => by cases d <;> exact h) ⟨⟨_, (KpS.refl _ _).drew⟩, rfl⟩ 5 rfl (by kernel_rfl) ?_
          simp only [pickB, List.filterMap_cons, List.filterMap_nil, List.getElem?_toArray, List.getElem?_cons_succ, List.getElem?_cons_zero, Option.map_some]
          repeat (refine wpHd_step (fun K hK => ?_); go_simp; first | (refine hK _ ?_; clear hK K) | (apply Exists.intro; refine ⟨fun _ => ?_, hK _ ?_⟩; rfl; clear hK K))
          refine wpHd_nil ?_
          have HFb : Hid ((acc ++ (down YS yv y1 y2 fr ub l).1) ++ (down YS yv y1 y2 fr ub r).1 <+: FL) := by
            have h9 := HFL.out
            rw [HR.out, HDN.out] at h9
            show _ <+: _
            rw [List.append_assoc]
            exact h9
          have HFa : Hid (acc ++ (down YS yv y1 y2 fr ub l).1 <+: FL) := (List.prefix_append _ _).trans HFb.out
          have HSd : S wc.drew acc D := HTT.out.stable _ _ _ _ HSc.out (Below.refl _ _).drew
          refine wpAnyT_ready [14] (by kernel_rfl) (by simp) ?_
          refine AllReadyT.cons rfl (fun K hK => ?_) AllReadyT.nil
          refine step_call enters_down rfl _ _ rfl (vals := #[.pointer (some ⟨tb, 0, none⟩), .int .i64 kl, .int .i64 la, .int .i64 lb, .agg #[.int .i64 fr, .int .i64 ub, .func (.func F) #[] cb]]) rfl (HREC2.out.1 _ _ _ HSd HFa.out) ?_
          rintro e w2 ⟨rfl, D2, hS2, hD2, hK2⟩
          have hk2 : KpS D wc w2 := (KpS.refl _ wc).drew.trans hK2
          refine ⟨_, rfl, hK _ _ (fun _ _ => ⟨⟨_, hk2⟩, rfl⟩) ?_⟩
          clear hK K
          refine wpAnyT_next [(15, false)] (by kernel_rfl) (fun _ _ d _ _ h => by cases d <;> exact h) ⟨⟨_, hk2⟩, rfl⟩ (by kernel_rfl) (by kernel_rfl) rfl ?_
          simp only [pickB, List.filterMap_cons, List.filterMap_nil, List.getElem?_toArray, List.getElem?_cons_succ, List.getElem?_cons_zero, Option.map_some]
          repeat (refine wpHd_step (fun K hK => ?_); go_simp; first | (refine hK _ ?_; clear hK K) | (apply Exists.intro; refine ⟨fun _ => ?_, hK _ ?_⟩; rfl; clear hK K))
          refine wpHd_nil ?_
          refine wpAnyT_line [34, 35, 36] _ _ _ (by kernel_rfl) ?_
          simp only [pick, List.filterMap_cons, List.filterMap_nil, List.getElem?_toArray, List.getElem?_cons_succ, List.getElem?_cons_zero]
          have C2 := HREC2.out.2 _ _ _ hS2 HFb.out
          have HKK := Lib.hid hk2
          have HDD := Lib.hid hD2
          have HD0 := Lib.hid (HTT.out.lt _ _ _ HS.out)
          clear hk2 hD2 hK2 hS2 HSd
          go_wp2_with (go_at_call 94; refine C2.mono ?_; rintro e w3 ⟨rfl, D3, hS3, hD3, hK3⟩)
          have hz1 := down_size (YS := YS) (yv := yv) (y1 := y1) (y2 := y2) (fr := fr) (ub := ub) l
          have hz2 := down_size (YS := YS) (yv := yv) (y1 := y1) (y2 := y2) (fr := fr) (ub := ub) r
          have hz3 := FT.size_eq _ hw
          have hz4 : (FT.node l r).size = l.size + r.size + 1 := rfl
          have hz5 := HE.out.2.2.1
          have e := HDN.out
          rw [← HR.out] at e
          rw [e]
          have hD3' := Lib.hid hD3
          have hKw : KpS (fun k => D k ∨ W.heap.size ≤ k) W w3 :=
            (((KpS.refl (fun k => D k ∨ W.heap.size ≤ k) W).below HBW.out).trans (HKK.out.mono fun k h => .inl h)).trans (hK3.mono fun k h => by
              rcases HDD.out k h with h9 | h9
              · exact .inl h9
              · right
                have := HBW.out.size
                simp at h9
                omega)
          rw [List.append_assoc] at hS3
          go_ret
          refine ⟨?_, D3, hS3, fun k h => ?_, hKw.strip⟩
          · refine congrArg Ending.returned ?_
            show Value.int .i64 (wrap64 (wrap64 (1 + ((down YS yv y1 y2 fr ub l).2 : Int)) + ((down YS yv y1 y2 fr ub r).2 : Int))) = _
            generalize (down YS yv y1 y2 fr ub l).2 = A at *
            generalize (down YS yv y1 y2 fr ub r).2 = B at *
            have hA : A ≤ 2000000 := by omega
            have hB : B ≤ 2000000 := by omega
            rw [w64_in (1 + (A : Int)) (by omega), w64_in _ (by omega)]
            exact congrArg _ (by omega)
          · rcases hD3'.out k h with h9 | h9
            · rcases HDD.out k h9 with h8 | h8
              · exact .inl h8
              · right
                have := HBW.out.size
                simp at h8
                omega
            · right
              have := HKK.out.size
              have := HBW.out.size
              omega

theorem casc_down (F : Nat) (cb : Array Value) (N : List Nd) (nm : Nat → Int) (YS : List Nat) (LN LL : Nat → Value) (tb B : Nat) (w0 : World) (S : World → List Nat → (Nat → Prop) → Prop) (yv : Nat → Int) (y1 y2 : Int) (fr ub : Nat)
    (HB : w0.heap.size ≤ B) (FL : List Nat) (hT : Told F cb N YS LN LL B w0 FL S) (hA : DnAt w0 tb N nm YS LN LL) (hs : YS.Pairwise fun i k => yv i ≤ yv k) (hy : y1 ≤ y2) (hN : N.length ≤ 1000000) (hYS : YS.length ≤ 1000000) (hfr : fr ≤ 1000000) (hto : ub ≤ 1000000) :
    ∀ (t : FT) (s : Nat), FT.At N t s → t.wf → t.hi ≤ 1000000 → ∀ (W : World) (acc : List Nat) (D : Nat → Prop), S W acc D → acc ++ (down YS yv y1 y2 fr ub t).1 <+: FL →
    Calls Tryz.prog 94 #[.pointer (some ⟨tb, 0, none⟩), .int .i64 (t.root s : Nat), .int .i64 (below yv y1 (nl YS t) : Nat), .int .i64 (upto yv y2 (nl YS t) : Nat), .agg #[.int .i64 fr, .int .i64 ub, .func (.func F) #[] cb]] W (DnP S W D (acc ++ (down YS yv y1 y2 fr ub t).1) (down YS yv y1 y2 fr ub t).2) := by
  intro t
  induction t with
  | leaf x => exact fun s ha hw hh W acc D hS hF => casc_down1 F cb N nm YS LN LL tb B w0 S yv y1 y2 fr ub HB FL hT hA hs hy hN hYS hfr hto _ s W acc D ha hw hh hS hF (fun l r e => by cases e)
  | node l r il ir =>
    intro s ha hw hh W acc D hS hF
    refine casc_down1 F cb N nm YS LN LL tb B w0 S yv y1 y2 fr ub HB FL hT hA hs hy hN hYS hfr hto _ s W acc D ha hw hh hS hF fun l' r' e => ?_
    cases e
    have h1 := FT.lo_hi r hw.2.1
    have h2 := hw.2.2
    have h3 : (FT.node l r).hi = r.hi := rfl
    exact ⟨fun W acc D hS hF => il s ha.left hw.1 (by omega) W acc D hS hF, fun W acc D hS hF => ir _ ha.right hw.2.1 (by omega) W acc D hS hF⟩

end Go.Proofs.YtggfdlanobndjaaGreat

/- Reslicing a slice of structs, in one way. No function of the program is walked here. -/
namespace Go.Proofs.YtggfdlanobndjaaGreat
open Go.RowKit

section
variable {P : Program} {ops : Array Oper} {rest : List Oper} {o : Oper} {a : Act} {Q : Exit → Act → World → Prop}

theorem rdk_cut {α : Type} {enc : α → List Value} {sz : Nat} {W : World} {ad : Option Addr} {l : List α} {c : Nat} (hl : RdK enc sz W ad l) (hc : l.length ≤ c) (lo hi : Nat) (hh : hi ≤ l.length) :
    RdK enc sz W (if c = lo then ad else ad.map (·.add (lo * sz))) ((l.take hi).drop lo) := by
  by_cases h : c = lo
  · exact .inl (by rw [List.drop_eq_nil_iff, List.length_take]; omega)
  · rw [if_neg h]
    rcases hl with rfl | ⟨b, off, rfl, hb, hcs⟩
    · exact .inl (by simp)
    · have h1 : RdK enc sz W (some ⟨b, off, none⟩) l := .inr ⟨b, off, rfl, hb, hcs⟩
      have hadd : (⟨b, off, none⟩ : Addr).add (lo * sz) = ⟨b, off + lo * sz, none⟩ := by unfold Addr.add; split <;> simp_all
      simp only [Option.map_some, hadd]
      exact (h1.take hi).drop lo

theorem wp_sliceK {α : Type} {enc : α → List Value} {sz : Nat} {t e : TypeId} {bytes : Nat} (E : ElemOK P t e sz bytes) {W : World} {ad : Option Addr} {l : List α} {c : Nat} (hl : RdK enc sz W ad l) (hc : l.length ≤ c) (lo hi : Nat) (h1 : lo ≤ hi) (h2 : hi ≤ l.length)
    (hgd : o.guard = none) (x : Operand) (low high : Option Operand) (ho : o.op = .slice t x low high none) (hx : a.eval x = .slice ad l.length c)
    (hlow : (low.map a.eval).getD (.int .i64 0) = .int .i64 lo) (hhigh : (high.map a.eval).getD (.int .i64 l.length) = .int .i64 hi)
    (h : ∀ ad', RdK enc sz W ad' ((l.take hi).drop lo) → wpList P ops Q rest (a.put o.dst (.slice ad' (hi - lo) (c - lo))) W) : wpList P ops Q (o :: rest) a W := by
  obtain ⟨ht, ⟨i, z, hi', hz, hsize, hby, hzs⟩, hsz⟩ := E
  refine wpList_plain hgd fun K hK => ?_
  have hk := hK _ _ (h _ (rdk_cut hl hc lo hi h2))
  have hu : ∀ W', (underlying t).run P W' = .ok (.slice e) W' := fun W' => run_underlying ht W'
  have hs : ∀ W', (sizeOf e).run P W' = .ok sz W' := fun W' => by simp [sizeOf, typeInfo, hi', hsize]
  unfold Oper.wp execOp
  have hhc : hi ≤ c := by omega
  rcases low with _ | lw
  · simp only [Option.map_none, Option.getD_none, Value.int.injEq, true_and] at hlow
    obtain rfl : lo = 0 := by omega
    rcases high with _ | hg
    · simp only [Option.map_none, Option.getD_none, Value.int.injEq, true_and] at hhigh
      obtain rfl : hi = l.length := by omega
      simp only [ho, hx, Option.map_none, Instr.sliceAt, Instr.slice, Instr.sliceBounds, Sem.run_bind, hu, hs, Result.andThen_ok, Sem.run_pure]
      exact hk
    · simp only [Option.map_some, Option.getD_some] at hhigh
      simp [ho, hx, hhigh, Instr.sliceAt, Instr.slice, Instr.sliceBounds, Instr.sliceBound, hu, hs, asIntOf, hhc]
      simp only [Nat.zero_mul, Nat.sub_zero] at hk
      exact hk
  · simp only [Option.map_some, Option.getD_some] at hlow
    rcases high with _ | hg
    · simp only [Option.map_none, Option.getD_none, Value.int.injEq, true_and] at hhigh
      obtain rfl : hi = l.length := by omega
      simp [ho, hx, hlow, Instr.sliceAt, Instr.slice, Instr.sliceBounds, Instr.sliceBound, hu, hs, asIntOf, h1]
      exact hk
    · simp only [Option.map_some, Option.getD_some] at hhigh
      simp [ho, hx, hlow, hhigh, Instr.sliceAt, Instr.slice, Instr.sliceBounds, Instr.sliceBound, hu, hs, asIntOf, h1, hhc]
      exact hk
end
end Go.Proofs.YtggfdlanobndjaaGreat
