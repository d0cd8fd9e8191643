/- Several texts in one: Base, Own. -/
import Derived.Test.YtggfdlanobndjaaGreatProg
import Derived.WalkKit
import Derived.Deep.LoopGhost
import Derived.Deep.QuietTactic
import Derived.BigQuiet
import Derived.Lib.Hide
import Derived.Sort.Walk0
import Derived.Shelf.Abstract

/- What the other texts of this seat lean on: slices that are read, as lists. No function of the program is walked here. -/
namespace Go.Proofs.YtggfdlanobndjaaGreat
open Go.RowKit

theorem ret_int {k : IntKind} {a b : Int} (h : a = b) : Ending.returned (.int k a) = .returned (.int k b) := by rw [h]
theorem ret_bool {a b : Bool} (h : a = b) : Ending.returned (.bool a) = .returned (.bool b) := by rw [h]

/-- A slice's address that reads as the list l in world w, an element a cell. -/
def Rd {α : Type} (enc : α → Value) (w : World) (a : Option Addr) (l : List α) : Prop :=
  l = [] ∨ ∃ b off, a = some ⟨b, off, none⟩ ∧ b < w.heap.size ∧ ∀ i (h : i < l.length), w.cell? ⟨b, off + i, none⟩ = some (enc l[i])

theorem Rd.below {α : Type} {enc : α → Value} {w w' : World} {a : Option Addr} {l : List α} {B : Nat} (h : Rd enc w a l) (hb : Below B w w') (hB : w.heap.size ≤ B := by first | exact Nat.le_refl _ | (simp; done) | (simp; omega)) : Rd enc w' a l := by
  rcases h with h | ⟨b, off, rfl, hlt, hc⟩
  · exact .inl h
  · exact .inr ⟨b, off, rfl, Nat.lt_of_lt_of_le hlt hb.size, fun i hi => by rw [hb.cell (p := ⟨b, off + i, none⟩) (Nat.lt_of_lt_of_le hlt hB)]; exact hc i hi⟩

theorem Rd.nil {α : Type} {enc : α → Value} {w : World} {a : Option Addr} : Rd enc w a ([] : List α) := .inl rfl

theorem Rd.get {α : Type} {enc : α → Value} {w : World} {a : Option Addr} {l : List α} (h : Rd enc w a l) (hl : 0 < l.length) :
    ∃ b off, a = some ⟨b, off, none⟩ ∧ b < w.heap.size ∧ ∀ i (h : i < l.length), w.cell? ⟨b, off + i, none⟩ = some (enc l[i]) := by
  rcases h with rfl | h
  · simp at hl
  · exact h

theorem Rd.take {α : Type} {enc : α → Value} {w : World} {a : Option Addr} {l : List α} (h : Rd enc w a l) (k : Nat) : Rd enc w a (l.take k) := by
  rcases h with rfl | ⟨b, off, rfl, hb, hc⟩
  · exact .inl (by simp)
  · exact .inr ⟨b, off, rfl, hb, fun i hi => by rw [List.getElem_take]; exact hc i (by simp at hi; omega)⟩

theorem Rd.drop {α : Type} {enc : α → Value} {w : World} {b off : Nat} {l : List α} (h : Rd enc w (some ⟨b, off, none⟩) l) (k : Nat) : Rd enc w (some ⟨b, off + k, none⟩) (l.drop k) := by
  rcases h with h | ⟨b', off', h, hb, hc⟩
  · exact .inl (by rw [h]; simp)
  · cases h
    exact .inr ⟨b, off + k, rfl, hb, fun i hi => by rw [List.getElem_drop, Nat.add_assoc]; exact hc (k + i) (by simp at hi; omega)⟩

theorem Rd.cast {α : Type} {enc : α → Value} {w : World} {a : Option Addr} {l l' : List α} (h : Rd enc w a l) (e : l = l') : Rd enc w a l' := e ▸ h

/-- A literal's block reads as its list. -/
theorem Rd.lit {α : Type} {enc : α → Value} (W : World) (e : TypeId) (l : List α) (n : Nat) (hn : n = W.heap.size) : Rd enc (W.alloc (.cells (l.map enc).toArray e)) (some ⟨n, 0, none⟩) l := by
  refine .inr ⟨_, 0, rfl, by simp; omega, fun i hi => ?_⟩
  rw [World.cell?_alloc_at _ _ _ _ hn]
  simp [hi]

/-- The cells of a slice that came in, read as the list of its elements. -/
theorem Rd.of_row {k : IntKind} {w : World} {a : Option Addr} {len cap : Nat} {zs : List Int} (h : (a = none ∧ len = 0 ∧ cap = 0 ∧ zs = []) ∨ ∃ x, a = some x ∧ len ≤ cap ∧ cap ≤ maxLen ∧ zs.length = cap ∧ (∀ i, i < zs.length → w.cell? (x.add i) = some (.int k (zs.getD i 0))) ∧ ∀ n ∈ zs, (Lit.int k n).wf = true) :
    (zs.take len).length = len ∧ Rd (.int k) w a (zs.take len) ∧ ∀ n ∈ zs.take len, (Lit.int k n).wf = true := by
  rcases h with ⟨rfl, rfl, rfl, rfl⟩ | ⟨x, rfl, hl, _, hz, hc, hw⟩
  · exact ⟨rfl, .inl rfl, by simp⟩
  · refine ⟨by simp; omega, ?_, fun n hn => hw n (List.mem_of_mem_take hn)⟩
    by_cases h0 : len = 0
    · subst h0; exact .inl (by simp)
    · obtain ⟨b, off, spot⟩ := x
      have h1 := hc 0 (by omega)
      have hs : spot = none := by simpa [Addr.add] using World.cell?_spot h1
      subst hs
      refine .inr ⟨b, off, rfl, ?_, fun i hi => ?_⟩
      · exact World.block_lt_of_cell? w _ h1
      · simp at hi
        have := hc i (by omega)
        have hadd : (⟨b, off, none⟩ : Addr).add i = ⟨b, off + i, none⟩ := by unfold Addr.add; split <;> simp_all
        rw [hadd] at this
        rw [this]
        simp [show i < zs.length by omega]

theorem wf_i64 {x : Int} (h : (Lit.int .i64 x).wf = true) : -9223372036854775808 ≤ x ∧ x ≤ 9223372036854775807 := by
  simpa [Lit.wf, IntKind.min, IntKind.max, IntKind.bits, IntKind.signed] using h
theorem IsRow_len {k : IntKind} {w : World} {a : Option Addr} {len cap : Nat} {zs : List Int} (h : (a = none ∧ len = 0 ∧ cap = 0 ∧ zs = []) ∨ ∃ x, a = some x ∧ len ≤ cap ∧ cap ≤ maxLen ∧ zs.length = cap ∧ (∀ i, i < zs.length → w.cell? (x.add i) = some (.int k (zs.getD i 0))) ∧ ∀ n ∈ zs, (Lit.int k n).wf = true) : len ≤ 9223372036854775807 := by
  rcases h with ⟨_, rfl, _⟩ | ⟨x, _, h1, h2, _⟩
  · omega
  · unfold maxLen at h2; omega

/-- A row that the call owns reads as a list. -/
theorem Rd.of_owns {α : Type} {enc : α → Value} {w : World} {base : Nat} {e : TypeId} {v : Value} {n : Nat} {l : List α} (h : w.ownsRow base e 1 v n (l.map enc)) :
    ∃ a c, v = .slice a l.length c ∧ n = l.length ∧ l.length ≤ c ∧ Rd enc w a l := by
  obtain ⟨hn, h⟩ := h
  have hn' : n = l.length := by simpa using hn.symm
  subst hn'
  rcases h with ⟨rfl, h0⟩ | ⟨g, cap, cur, rfl, hg, hh, hc, hm, hs, ht⟩
  · have : l = [] := List.eq_nil_of_length_eq_zero h0
    subst this
    exact ⟨none, 0, rfl, rfl, Nat.le_refl _, .inl rfl⟩
  · refine ⟨_, cap, rfl, rfl, hc, .inr ⟨g, 0, rfl, ?_, ?_⟩⟩
    · exact (Array.getElem?_eq_some_iff.1 hh).1
    · intro i hi
      have := ht
      simp only [Nat.mul_one] at this
      unfold World.cell?
      simp only [hh]
      have h1 : (cur.toList.take l.length)[i]? = some (enc l[i]) := by rw [this]; simp [hi]
      rw [List.getElem?_take] at h1
      simp only [hi, if_true] at h1
      simpa using h1

def eInt (k : IntKind) (x : Int) : Value := .int k x

/-- where two lists are the same up to the shorter one's end -/
def sameUpto {α : Type} [DecidableEq α] : List α → List α → Bool
  | [], _ => true
  | _, [] => true
  | x :: l, y :: m => decide (x = y) && sameUpto l m

theorem eq_of_pre {α : Type} [DecidableEq α] (l m : List α) (k : Nat) (hk : l.take k = m.take k) (h : ¬ (k < l.length ∧ k < m.length)) :
    decide (l = m) = decide ((l.length : Int) = (m.length : Int)) := by
  by_cases e : l.length = m.length
  · have h1 : l = m := by
      rw [List.take_of_length_le (by omega), List.take_of_length_le (by omega)] at hk
      exact hk
    simp [h1]
  · have h1 : l ≠ m := fun h => e (by rw [h])
    simp [h1]
    omega

theorem ne_of_at {α : Type} [DecidableEq α] (l m : List α) (k : Nat) (h1 : k < l.length) (h2 : k < m.length) (h : l[k] ≠ m[k]) : decide (l = m) = false := by
  apply decide_eq_false
  intro e
  subst e
  exact h rfl

theorem take_more {α : Type} (l m : List α) (k : Nat) (hk : l.take k = m.take k) (h1 : k < l.length) (h2 : k < m.length) (h : l[k] = m[k]) : l.take (k + 1) = m.take (k + 1) := by
  rw [List.take_succ_eq_append_getElem h1, List.take_succ_eq_append_getElem h2, hk, h]

end Go.Proofs.YtggfdlanobndjaaGreat

/- Laws of append for rows that the call owns: one element, a list of elements (nil too). No function of the program is walked here. -/
namespace Go.Proofs.YtggfdlanobndjaaGreat
open Go.RowKit

/-- A slice type t over elements e: so many cells, so many bytes. -/
structure ElemOK (P : Program) (t e : TypeId) (size bytes : Nat) : Prop where
  ht : P.underlying t = some (.slice e)
  hinfo : ∃ (i : TypeInfo) (z : Value), P.info? e = some i ∧ i.zero = some z ∧ i.size = size ∧ i.bytes = bytes ∧ z.cells.size = size
  hsz : 0 < size

theorem ElemOK.mk' {P : Program} {t e : TypeId} {z : Value} {size bytes : Nat} (ht : P.underlying t = some (.slice e)) (h : (P.info? e).map (fun i => (i.zero, i.size, i.bytes)) = some (some z, size, bytes)) (hz : z.cells.size = size) (hsz : 0 < size) :
    ElemOK P t e size bytes := by
  obtain ⟨i, hi, h1, h2, h3⟩ := info_parts h
  exact ⟨ht, ⟨i, z, hi, h1, h2, h3, hz⟩, hsz⟩

section
variable {P : Program} {ops : Array Oper} {rest : List Oper} {o : Oper} {a : Act} {Q : Exit → Act → World → Prop}

theorem grownBy_trans {w w1 w2 : World} {r : Option Nat} (h : w.grownBy w1 none) (h2 : w1.grownBy w2 r) : w.grownBy w2 r :=
  ⟨h2.os.trans h.os, h2.tape.trans h.tape, h2.output.trans h.output, Nat.le_trans h.size h2.size, fun k hk hr => (h2.block k (Nat.lt_of_lt_of_le hk h.size) hr).trans (h.block k hk (by simp))⟩

/-- append(v, x): the element's cells stand in a new block of their own. -/
theorem wp_append1 {t e : TypeId} {size bytes : Nat} (E : ElemOK P t e size bytes) (base : Nat) {v : Value} {n : Nat} {xs : List Value} {W : World} (hown : W.ownsRow base e size v n xs) (us : List Value) (hus : us.length = size) (h1 : ∀ u ∈ us, u.oneCell' = true)
    (hgd : o.guard = none) (s x : Operand) (ho : o.op = .call { callee := .builtin .append, args := #[s, x], argTypes := #[t, t] })
    (hs : a.eval s = v) (e' : TypeId) (hx : a.eval x = .slice (some ⟨W.heap.size, 0, none⟩) 1 1) (h63 : n + 1 ≤ maxLen) (hbytes : (n + 1) * bytes ≤ 140737488355328) (hbase : base ≤ W.heap.size)
    (h : ∀ v' w', w'.ownsRow base e size v' (n + 1) (xs ++ us) → W.grownBy w' v.ownBlock → wpList P ops Q rest (a.put o.dst v') w') : wpList P ops Q (o :: rest) a (W.alloc (.cells us.toArray e')) := by
  obtain ⟨ht, ⟨i, z, hi, hz, hsize, hby, hzs⟩, hsz⟩ := E
  refine wpList_append_own _ hgd s x t ho base e i z size bytes ht hi hz hsize hby hzs hsz v n xs hs (hown.alloc _) ⟨W.heap.size, 0, none⟩ 1 1 us hx (by omega) ?_ h1 h63 hbytes (by simp; omega) ?_
  · intro j u hu
    have hadd : (⟨W.heap.size, 0, none⟩ : Addr).add j = ⟨W.heap.size, j, none⟩ := by unfold Addr.add; split <;> simp_all
    rw [hadd, World.cell?_alloc_at _ _ _ _ (by rfl)]
    simpa using hu
  · intro v' w' h2 h3 _
    exact h v' w' h2 (grownBy_trans (World.grownBy_alloc W _ none) h3)

/-- append(v, nothing...): v stays. -/
theorem run_append_nothing {t ty e : TypeId} {size bytes : Nat} (E : ElemOK P t e size bytes) {base : Nat} {v : Value} {n : Nat} {xs : List Value} {W : World} (hown : W.ownsRow base e size v n xs) (x : Option Addr) (c : Nat) :
    (Builtin.append_ #[t, t] ty #[v, .slice x 0 c]).run P W = .ok v W := by
  obtain ⟨ht, ⟨i, z, hi, hz, hsize, hby, hzs⟩, hsz⟩ := E
  rcases hown.2 with ⟨rfl, rfl⟩ | ⟨g, cap, cur, rfl, _, _, hn, _⟩
  · cases x <;> simp [Builtin.append_, run_underlying ht, sizeOf, typeInfo, hi, Builtin.lenOf, Builtin.firstCells, loadCells, loadCellsFrom]
  · cases x <;> simp [Builtin.append_, run_underlying ht, sizeOf, typeInfo, hi, Builtin.lenOf, hn, Builtin.firstCells, loadCells, loadCellsFrom, storeCells]

/-- append(v, l...) as a run. -/
theorem run_appendL {α : Type} {enc : α → Value} {t ty e : TypeId} {bytes : Nat} (E : ElemOK P t e 1 bytes) (h1 : ∀ x, (enc x).oneCell' = true) (base : Nat) {v : Value} {n : Nat} {xs : List Value} {W : World} (hown : W.ownsRow base e 1 v n xs) {ad : Option Addr} {l : List α} (hl : Rd enc W ad l)
    (c : Nat) (h63 : n + l.length ≤ maxLen) (hbytes : (n + l.length) * bytes ≤ 140737488355328) (hbase : base ≤ W.heap.size) :
    ∃ v' w', (Builtin.append_ #[t, t] ty #[v, .slice ad l.length c]).run P W = .ok v' w' ∧ w'.ownsRow base e 1 v' (n + l.length) (xs ++ l.map enc) ∧ W.grownBy w' v.ownBlock := by
  rcases hl with rfl | ⟨b, off, rfl, hb, hc⟩
  · exact ⟨v, W, run_append_nothing E hown ad c, by simpa using hown, ⟨rfl, rfl, rfl, Nat.le_refl _, fun _ _ _ => rfl⟩⟩
  · obtain ⟨ht, ⟨i, z, hi, hz, hsize, hby, hzs⟩, hsz⟩ := E
    obtain ⟨v', w', h2, h3, h4, _⟩ := run_append_own (P := P) W base t ty e i z 1 bytes ht hi hz hsize hby hzs hsz v n xs hown ⟨b, off, none⟩ l.length c (l.map enc) (by simp) (by
      intro j u hu
      have hadd : (⟨b, off, none⟩ : Addr).add j = ⟨b, off + j, none⟩ := by unfold Addr.add; split <;> simp_all
      rw [hadd]
      simp only [List.getElem?_map, Option.map_eq_some_iff] at hu
      obtain ⟨y, hy, rfl⟩ := hu
      obtain ⟨hj, rfl⟩ := List.getElem?_eq_some_iff.1 hy
      exact hc j hj) (by
      intro u hu
      obtain ⟨y, _, rfl⟩ := List.mem_map.1 hu
      exact h1 y) h63 hbytes hbase
    exact ⟨v', w', h2, h3, h4⟩

/-- append inside a region that draws its order, by its run. -/
theorem step_run_append {K : Act → World → Prop} {E : Prop} {w w' : World} {v xv v' : Value} {t : TypeId} (hg : o.guard = none) (s x : Operand)
    (hop : o.op = Op.call { callee := Callee.builtin Builtin.append, args := #[s, x], argTypes := #[t, t] }) (R : (Builtin.append_ #[t, t] o.type #[v, xv]).run P w = .ok v' w')
    (hs : a.eval s = v) (hx : a.eval x = xv) (hK : K (a.put o.dst v') w') : if Region.wanted o (yielded ops a.tmps) = true then Oper.wp P o a w K Q else E := by
  have hw : Region.wanted o (yielded ops a.tmps) = true := by simp [Region.wanted, hg]
  rw [if_pos hw]
  unfold Oper.wp
  simp [execOp, hop, resolve, invoke, builtin, hs, hx, R, Result.andThen]
  exact hK

/-- append(v, l...): l a slice that reads as a list, nil too; an element a cell. -/
theorem wp_appendL {α : Type} {enc : α → Value} {t e : TypeId} {bytes : Nat} (E : ElemOK P t e 1 bytes) (h1 : ∀ x, (enc x).oneCell' = true) (base : Nat) {v : Value} {n : Nat} {xs : List Value} {W : World} (hown : W.ownsRow base e 1 v n xs) {ad : Option Addr} {l : List α} (hl : Rd enc W ad l)
    (hgd : o.guard = none) (s x : Operand) (ho : o.op = .call { callee := .builtin .append, args := #[s, x], argTypes := #[t, t] })
    (hs : a.eval s = v) (c : Nat) (hx : a.eval x = .slice ad l.length c) (h63 : n + l.length ≤ maxLen) (hbytes : (n + l.length) * bytes ≤ 140737488355328) (hbase : base ≤ W.heap.size)
    (h : ∀ v' w', w'.ownsRow base e 1 v' (n + l.length) (xs ++ l.map enc) → W.grownBy w' v.ownBlock → wpList P ops Q rest (a.put o.dst v') w') : wpList P ops Q (o :: rest) a W := by
  rcases hl with rfl | ⟨b, off, rfl, hb, hc⟩
  · refine wpList_plain hgd fun K hK => ?_
    have hr := run_append_nothing (ty := o.type) E hown ad c
    have hx' : a.eval x = .slice ad 0 c := hx
    have hk := hK _ _ (h v W (by simpa using hown) ⟨rfl, rfl, rfl, Nat.le_refl _, fun _ _ _ => rfl⟩)
    unfold Oper.wp execOp
    simp only [ho, resolve, invoke, builtin, Sem.run_bind, Sem.run_pure, Result.andThen_ok, List.map_toArray, List.map_cons, List.map_nil, hs, hx', hr]
    exact hk
  · obtain ⟨ht, ⟨i, z, hi, hz, hsize, hby, hzs⟩, hsz⟩ := E
    refine wpList_append_own _ hgd s x t ho base e i z 1 bytes ht hi hz hsize hby hzs hsz v n xs hs hown ⟨b, off, none⟩ l.length c (l.map enc) hx (by simp) ?_ ?_ h63 hbytes hbase ?_
    · intro j u hu
      have hadd : (⟨b, off, none⟩ : Addr).add j = ⟨b, off + j, none⟩ := by unfold Addr.add; split <;> simp_all
      rw [hadd]
      simp only [List.getElem?_map, Option.map_eq_some_iff] at hu
      obtain ⟨y, hy, rfl⟩ := hu
      obtain ⟨hj, rfl⟩ := List.getElem?_eq_some_iff.1 hy
      exact hc j hj
    · intro u hu
      obtain ⟨y, _, rfl⟩ := List.mem_map.1 hu
      exact h1 y
    · intro v' w' h2 h3 _
      exact h v' w' h2 h3
end

/-- Draws turn no block. -/
theorem Below.drewAny (B : Nat) {w : World} (n : Nat) : Below B w (w.drewN n) := ⟨rfl, rfl, rfl, Nat.le_refl _, fun _ _ => rfl⟩
theorem _root_.Go.World.ownsRow.drewAny {w : World} {base : Nat} {e : TypeId} {size : Nat} {v : Value} {n : Nat} {xs : List Value} (h : w.ownsRow base e size v n xs) (q : Nat) : (w.drewN q).ownsRow base e size v n xs := h

theorem below_asGrown {w w' : World} (h : Below w.heap.size w w') : w.grownBy w' none := ⟨h.os, h.tape, h.output, h.size, fun k hk _ => h.block k hk⟩
theorem grown_below {B b : Nat} {w w' : World} (h : w.grownBy w' (some b)) (hB : B ≤ w.heap.size) (hb : B ≤ b) : Below B w w' := (Below.refl B w).grown h hB (fun k hk => by cases hk; exact hb)
/-- An owned row stays owned where all old blocks stay. -/
theorem ownsRow_below {w w' : World} {base : Nat} {e : TypeId} {size : Nat} {v : Value} {n : Nat} {xs : List Value} (h : w.ownsRow base e size v n xs) (hb : Below w.heap.size w w') : w'.ownsRow base e size v n xs :=
  h.kept (below_asGrown hb) (by cases hv : v.ownBlock <;> simp)

/-- What grew by a row of the call's own keeps all below. -/
theorem below_grown {B base : Nat} {w W w' : World} {v : Value} {e : TypeId} {size n : Nat} {xs : List Value} (hb : Below B w W) (hown : W.ownsRow base e size v n xs) (hg : W.grownBy w' v.ownBlock) (hB : B ≤ W.heap.size) (hbase : B ≤ base) : Below B w w' :=
  hb.grown hg hB (fun k hk => Nat.le_trans hbase (hown.lt k hk).1)

/-! The slice types of this seat. -/
theorem elInt64 : ElemOK Tryz.prog 87 2 1 8 := .mk' (z := .int .i64 0) Tryz.underlying87 (by kernel_rfl) rfl (by decide)
theorem elInt : ElemOK Tryz.prog 88 3 1 8 := .mk' (z := .int .i64 0) Tryz.underlying88 (by kernel_rfl) rfl (by decide)
theorem elU32 : ElemOK Tryz.prog 40 32 1 4 := .mk' (z := .int .u32 0) Tryz.underlying40 (by kernel_rfl) rfl (by decide)
theorem elBool : ElemOK Tryz.prog 48 4 1 1 := .mk' (z := .bool false) Tryz.underlying48 (by kernel_rfl) rfl (by decide)
theorem elU8 : ElemOK Tryz.prog 53 5 1 1 := .mk' (z := .int .u8 0) Tryz.underlying53 (by kernel_rfl) rfl (by decide)
theorem elPoint : ElemOK Tryz.prog 22 34 3 24 := .mk' (z := .agg #[.int .i64 0, .int .i64 0, .int .u32 0]) Tryz.underlying22 (by kernel_rfl) rfl (by decide)

end Go.Proofs.YtggfdlanobndjaaGreat
