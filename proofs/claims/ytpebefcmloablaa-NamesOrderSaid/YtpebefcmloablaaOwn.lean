/- Laws of append for rows that the call owns: one element, a list of elements (nil too). No function of the program is walked here. -/
import Derived.Test.YtpebefcmloablaaBase
namespace Go.Proofs.Ytpebefcmloablaa
open Go.RowKit

/-- A slice type t over elements e: so many cells, so many bytes. -/
structure ElemOK (P : Program) (t e : TypeId) (size bytes : Nat) : Prop where
  ht : P.underlying t = some (.slice e)
  hinfo : ∃ (i : TypeInfo) (z : Value), P.info? e = some i ∧ i.zero = some z ∧ i.size = size ∧ i.bytes = bytes ∧ z.cells.size = size
  hsz : 0 < size

theorem ElemOK.mk' {P : Program} {t e : TypeId} {z : Value} {size bytes : Nat} (ht : P.underlying t = some (.slice e)) (h : (P.info? e).map (fun i => (i.zero, i.size, i.bytes)) = some (some z, size, bytes)) (hz : z.cells.size = size) (hsz : 0 < size) :
    ElemOK P t e size bytes := by
  obtain ⟨i, hi, h1, h2, h3⟩ := info_parts h
  exact ⟨ht, ⟨i, z, hi, h1, h2, h3, hz⟩, hsz⟩

section
variable {P : Program} {ops : Array Oper} {rest : List Oper} {o : Oper} {a : Act} {Q : Exit → Act → World → Prop}

theorem grownBy_trans {w w1 w2 : World} {r : Option Nat} (h : w.grownBy w1 none) (h2 : w1.grownBy w2 r) : w.grownBy w2 r :=
  ⟨h2.os.trans h.os, h2.tape.trans h.tape, h2.output.trans h.output, Nat.le_trans h.size h2.size, fun k hk hr => (h2.block k (Nat.lt_of_lt_of_le hk h.size) hr).trans (h.block k hk (by simp))⟩

/-- append(v, x): the element's cells stand in a new block of their own. -/
theorem wp_append1 {t e : TypeId} {size bytes : Nat} (E : ElemOK P t e size bytes) (base : Nat) {v : Value} {n : Nat} {xs : List Value} {W : World} (hown : W.ownsRow base e size v n xs) (us : List Value) (hus : us.length = size) (h1 : ∀ u ∈ us, u.oneCell' = true)
    (hgd : o.guard = none) (s x : Operand) (ho : o.op = .call { callee := .builtin .append, args := #[s, x], argTypes := #[t, t] })
    (hs : a.eval s = v) (e' : TypeId) (hx : a.eval x = .slice (some ⟨W.heap.size, 0, none⟩) 1 1) (h63 : n + 1 ≤ maxLen) (hbytes : (n + 1) * bytes ≤ 140737488355328) (hbase : base ≤ W.heap.size)
    (h : ∀ v' w', w'.ownsRow base e size v' (n + 1) (xs ++ us) → W.grownBy w' v.ownBlock → wpList P ops Q rest (a.put o.dst v') w') : wpList P ops Q (o :: rest) a (W.alloc (.cells us.toArray e')) := by
  obtain ⟨ht, ⟨i, z, hi, hz, hsize, hby, hzs⟩, hsz⟩ := E
  refine wpList_append_own _ hgd s x t ho base e i z size bytes ht hi hz hsize hby hzs hsz v n xs hs (hown.alloc _) ⟨W.heap.size, 0, none⟩ 1 1 us hx (by omega) ?_ h1 h63 hbytes (by simp; omega) ?_
  · intro j u hu
    have hadd : (⟨W.heap.size, 0, none⟩ : Addr).add j = ⟨W.heap.size, j, none⟩ := by unfold Addr.add; split <;> simp_all
    rw [hadd, World.cell?_alloc_at _ _ _ _ (by rfl)]
    simpa using hu
  · intro v' w' h2 h3 _
    exact h v' w' h2 (grownBy_trans (World.grownBy_alloc W _ none) h3)

/-- append(v, nothing...): v stays. -/
theorem run_append_nothing {t ty e : TypeId} {size bytes : Nat} (E : ElemOK P t e size bytes) {base : Nat} {v : Value} {n : Nat} {xs : List Value} {W : World} (hown : W.ownsRow base e size v n xs) (x : Option Addr) (c : Nat) :
    (Builtin.append_ #[t, t] ty #[v, .slice x 0 c]).run P W = .ok v W := by
  obtain ⟨ht, ⟨i, z, hi, hz, hsize, hby, hzs⟩, hsz⟩ := E
  rcases hown.2 with ⟨rfl, rfl⟩ | ⟨g, cap, cur, rfl, _, _, hn, _⟩
  · cases x <;> simp [Builtin.append_, run_underlying ht, sizeOf, typeInfo, hi, Builtin.lenOf, Builtin.firstCells, loadCells, loadCellsFrom]
  · cases x <;> simp [Builtin.append_, run_underlying ht, sizeOf, typeInfo, hi, Builtin.lenOf, hn, Builtin.firstCells, loadCells, loadCellsFrom, storeCells]

/-- append(v, l...) as a run. -/
theorem run_appendL {α : Type} {enc : α → Value} {t ty e : TypeId} {bytes : Nat} (E : ElemOK P t e 1 bytes) (h1 : ∀ x, (enc x).oneCell' = true) (base : Nat) {v : Value} {n : Nat} {xs : List Value} {W : World} (hown : W.ownsRow base e 1 v n xs) {ad : Option Addr} {l : List α} (hl : Rd enc W ad l)
    (c : Nat) (h63 : n + l.length ≤ maxLen) (hbytes : (n + l.length) * bytes ≤ 140737488355328) (hbase : base ≤ W.heap.size) :
    ∃ v' w', (Builtin.append_ #[t, t] ty #[v, .slice ad l.length c]).run P W = .ok v' w' ∧ w'.ownsRow base e 1 v' (n + l.length) (xs ++ l.map enc) ∧ W.grownBy w' v.ownBlock := by
  rcases hl with rfl | ⟨b, off, rfl, hb, hc⟩
  · exact ⟨v, W, run_append_nothing E hown ad c, by simpa using hown, ⟨rfl, rfl, rfl, Nat.le_refl _, fun _ _ _ => rfl⟩⟩
  · obtain ⟨ht, ⟨i, z, hi, hz, hsize, hby, hzs⟩, hsz⟩ := E
    obtain ⟨v', w', h2, h3, h4, _⟩ := run_append_own (P := P) W base t ty e i z 1 bytes ht hi hz hsize hby hzs hsz v n xs hown ⟨b, off, none⟩ l.length c (l.map enc) (by simp) (by
      intro j u hu
      have hadd : (⟨b, off, none⟩ : Addr).add j = ⟨b, off + j, none⟩ := by unfold Addr.add; split <;> simp_all
      rw [hadd]
      simp only [List.getElem?_map, Option.map_eq_some_iff] at hu
      obtain ⟨y, hy, rfl⟩ := hu
      obtain ⟨hj, rfl⟩ := List.getElem?_eq_some_iff.1 hy
      exact hc j hj) (by
      intro u hu
      obtain ⟨y, _, rfl⟩ := List.mem_map.1 hu
      exact h1 y) h63 hbytes hbase
    exact ⟨v', w', h2, h3, h4⟩

/-- append inside a region that draws its order, by its run. -/
theorem step_run_append {K : Act → World → Prop} {E : Prop} {w w' : World} {v xv v' : Value} {t : TypeId} (hg : o.guard = none) (s x : Operand)
    (hop : o.op = Op.call { callee := Callee.builtin Builtin.append, args := #[s, x], argTypes := #[t, t] }) (R : (Builtin.append_ #[t, t] o.type #[v, xv]).run P w = .ok v' w')
    (hs : a.eval s = v) (hx : a.eval x = xv) (hK : K (a.put o.dst v') w') : if Region.wanted o (yielded ops a.tmps) = true then Oper.wp P o a w K Q else E := by
  have hw : Region.wanted o (yielded ops a.tmps) = true := by simp [Region.wanted, hg]
  rw [if_pos hw]
  unfold Oper.wp
  simp [execOp, hop, resolve, invoke, builtin, hs, hx, R, Result.andThen]
  exact hK

/-- append(v, l...): l a slice that reads as a list, nil too; an element a cell. -/
theorem wp_appendL {α : Type} {enc : α → Value} {t e : TypeId} {bytes : Nat} (E : ElemOK P t e 1 bytes) (h1 : ∀ x, (enc x).oneCell' = true) (base : Nat) {v : Value} {n : Nat} {xs : List Value} {W : World} (hown : W.ownsRow base e 1 v n xs) {ad : Option Addr} {l : List α} (hl : Rd enc W ad l)
    (hgd : o.guard = none) (s x : Operand) (ho : o.op = .call { callee := .builtin .append, args := #[s, x], argTypes := #[t, t] })
    (hs : a.eval s = v) (c : Nat) (hx : a.eval x = .slice ad l.length c) (h63 : n + l.length ≤ maxLen) (hbytes : (n + l.length) * bytes ≤ 140737488355328) (hbase : base ≤ W.heap.size)
    (h : ∀ v' w', w'.ownsRow base e 1 v' (n + l.length) (xs ++ l.map enc) → W.grownBy w' v.ownBlock → wpList P ops Q rest (a.put o.dst v') w') : wpList P ops Q (o :: rest) a W := by
  rcases hl with rfl | ⟨b, off, rfl, hb, hc⟩
  · refine wpList_plain hgd fun K hK => ?_
    have hr := run_append_nothing (ty := o.type) E hown ad c
    have hx' : a.eval x = .slice ad 0 c := hx
    have hk := hK _ _ (h v W (by simpa using hown) ⟨rfl, rfl, rfl, Nat.le_refl _, fun _ _ _ => rfl⟩)
    unfold Oper.wp execOp
    simp only [ho, resolve, invoke, builtin, Sem.run_bind, Sem.run_pure, Result.andThen_ok, List.map_toArray, List.map_cons, List.map_nil, hs, hx', hr]
    exact hk
  · obtain ⟨ht, ⟨i, z, hi, hz, hsize, hby, hzs⟩, hsz⟩ := E
    refine wpList_append_own _ hgd s x t ho base e i z 1 bytes ht hi hz hsize hby hzs hsz v n xs hs hown ⟨b, off, none⟩ l.length c (l.map enc) hx (by simp) ?_ ?_ h63 hbytes hbase ?_
    · intro j u hu
      have hadd : (⟨b, off, none⟩ : Addr).add j = ⟨b, off + j, none⟩ := by unfold Addr.add; split <;> simp_all
      rw [hadd]
      simp only [List.getElem?_map, Option.map_eq_some_iff] at hu
      obtain ⟨y, hy, rfl⟩ := hu
      obtain ⟨hj, rfl⟩ := List.getElem?_eq_some_iff.1 hy
      exact hc j hj
    · intro u hu
      obtain ⟨y, _, rfl⟩ := List.mem_map.1 hu
      exact h1 y
    · intro v' w' h2 h3 _
      exact h v' w' h2 h3
end

/-- Draws turn no block. -/
theorem Below.drewAny (B : Nat) {w : World} (n : Nat) : Below B w (w.drewN n) := ⟨rfl, rfl, rfl, Nat.le_refl _, fun _ _ => rfl⟩
theorem _root_.Go.World.ownsRow.drewAny {w : World} {base : Nat} {e : TypeId} {size : Nat} {v : Value} {n : Nat} {xs : List Value} (h : w.ownsRow base e size v n xs) (q : Nat) : (w.drewN q).ownsRow base e size v n xs := h

theorem below_asGrown {w w' : World} (h : Below w.heap.size w w') : w.grownBy w' none := ⟨h.os, h.tape, h.output, h.size, fun k hk _ => h.block k hk⟩
theorem grown_below {B b : Nat} {w w' : World} (h : w.grownBy w' (some b)) (hB : B ≤ w.heap.size) (hb : B ≤ b) : Below B w w' := (Below.refl B w).grown h hB (fun k hk => by cases hk; exact hb)
/-- An owned row stays owned where all old blocks stay. -/
theorem ownsRow_below {w w' : World} {base : Nat} {e : TypeId} {size : Nat} {v : Value} {n : Nat} {xs : List Value} (h : w.ownsRow base e size v n xs) (hb : Below w.heap.size w w') : w'.ownsRow base e size v n xs :=
  h.kept (below_asGrown hb) (by cases hv : v.ownBlock <;> simp)

/-- What grew by a row of the call's own keeps all below. -/
theorem below_grown {B base : Nat} {w W w' : World} {v : Value} {e : TypeId} {size n : Nat} {xs : List Value} (hb : Below B w W) (hown : W.ownsRow base e size v n xs) (hg : W.grownBy w' v.ownBlock) (hB : B ≤ W.heap.size) (hbase : B ≤ base) : Below B w w' :=
  hb.grown hg hB (fun k hk => Nat.le_trans hbase (hown.lt k hk).1)

/-! The slice types of this seat. -/
theorem elInt : ElemOK Try.prog 69 3 1 8 := .mk' (z := .int .i64 0) Try.underlying69 (by kernel_rfl) rfl (by decide)
theorem elU32 : ElemOK Try.prog 61 31 1 4 := .mk' (z := .int .u32 0) Try.underlying61 (by kernel_rfl) rfl (by decide)
theorem elBool : ElemOK Try.prog 70 4 1 1 := .mk' (z := .bool false) Try.underlying70 (by kernel_rfl) rfl (by decide)
theorem elPoint : ElemOK Try.prog 22 33 3 24 := .mk' (z := .agg #[.int .i64 0, .int .i64 0, .int .u32 0]) Try.underlying22 (by kernel_rfl) rfl (by decide)

end Go.Proofs.Ytpebefcmloablaa
