/- names.Put at a new name: the region that lengthens both rows. -/
import Derived.Test.YtpebefcmloablaaPut
import Derived.Test.YtpebefcmloablaaNmF
import Derived.Deep.AppendLies
namespace Go.Proofs.Ytpebefcmloablaa
open Go.RowKit Go.Maps
attribute [local irreducible] wpQuiet
set_option linter.unusedSimpArgs false
set_option linter.unusedVariables false

section
variable {P : Program} {ops : Array Oper} {o : Oper} {a : Act} {K : Act → World → Prop} {Q : Exit → Act → World → Prop} {E0 : Prop}
/-- append(v, x) inside a region that draws; the block told -/
theorem step_append1E {t e e' : TypeId} {size bytes : Nat} {fr : Nat × Nat} (E : ElemOK P t e size bytes) (base : Nat) {v : Value} {n : Nat} {xs : List Value} {w : World} (hown : w.ownsRow base e size v n xs) (us : List Value) (hus : us.length = size) (h1 : ∀ u ∈ us, u.oneCell' = true)
    (hgd : o.guard = none) (s x : Operand) (ho : o.op = .call { callee := .builtin .append, args := #[s, x], argTypes := #[t, t] }) (hs : a.eval s = v) (g0 : Nat) (hx : a.eval x = .slice (some ⟨g0, 0, none⟩) 1 1) (hg0 : w.heap[g0]? = some (Obj.cells us.toArray e' fr))
    (h63 : n + 1 ≤ maxLen) (hbytes : (n + 1) * bytes ≤ 140737488355328) (hbase : base ≤ w.heap.size)
    (h : ∀ g cap w', w'.ownsRow base e size (.slice (some ⟨g, 0, none⟩) (n + 1) cap) (n + 1) (xs ++ us) → w.grownBy w' v.ownBlock → (v.ownBlock = some g ∨ g = w.heap.size) → g < w'.heap.size → K (a.put o.dst (.slice (some ⟨g, 0, none⟩) (n + 1) cap)) w') :
    if Region.wanted o (yielded ops a.tmps) = true then Oper.wp P o a w K Q else E0 := by
  obtain ⟨ht, ⟨i, z, hi, hz, hsize, hby, hzs⟩, hsz⟩ := E
  exact step_append_lies w hgd s x t ho base e i z size bytes ht hi hz hsize hby hzs hsz v n xs hs hown ⟨g0, 0, none⟩ 1 1 us hx (by omega) (World.news_of_block (cs := us.toArray) hg0) h1 (by decide) h63 hbytes hbase w.heap.size rfl h

/-- a call inside a region that draws, by its contract -/
theorem step_call {f : FuncId} {w : World} {vals : Array Value} {R : Ending → World → Prop} (hen : ∀ args w, (callFunc f args).run P w = .ok (.enter f args) w) (hgd : o.guard = none) (args : Array Operand) (tys : Array TypeId) (ho : o.op = .call { callee := .value (.func f), args := args, argTypes := tys }) (hargs0 : vals = (args.toList.map a.eval).toArray)
    (C : Calls P f vals w R) (h : ∀ e w', R e w' → ∃ v, e = .returned v ∧ K (a.put o.dst v) w') :
    if Region.wanted o (yielded ops a.tmps) = true then Oper.wp P o a w K Q else E0 := by
  have hw : Region.wanted o (yielded ops a.tmps) = true := by simp [Region.wanted, hgd]
  rw [if_pos hw]
  unfold Oper.wp
  have hargs : args.map a.eval = vals := by rw [hargs0, ← Array.toList_map]
  have he : (execOp a.eval o).run P w = .ok (.enter f vals) w := by
    simp [execOp, ho, resolve, invoke, hargs, Act.eval, Deferred.ofValue, hen]
  rw [he, Oper.upon_enter]
  refine C.mono fun e w' hr => ?_
  obtain ⟨v, rfl, hk⟩ := h e w' hr
  exact hk
end

theorem KpS.alloc {S : Nat → Prop} {W w1 : World} (h : KpS S W w1) (o : Obj) : KpS S W (w1.alloc o) := h.below ((Below.refl _ _).alloc (Nat.le_refl _) _)
theorem rowK {S : Nat → Prop} {W W' : World} {base : Nat} {e : TypeId} {sz : Nat} {v : Value} {n : Nat} {xs : List Value} (h : W.ownsRow base e sz v n xs) (K : KpS S W W') (hS : ∀ gb, v.ownBlock = some gb → ¬ S gb) : W'.ownsRow base e sz v n xs :=
  owns_sameH h fun gb e => K.block gb (h.lt gb e).2 (hS gb e)
theorem blkK {S : Nat → Prop} {W W' : World} (K : KpS S W W') {b : Nat} {o : Obj} (h : W.heap[b]? = some o) (hS : ¬ S b) : W'.heap[b]? = some o := (K.block b (Array.getElem?_eq_some_iff.1 h).1 hS).trans h
theorem cellK {S : Nat → Prop} {W W' : World} (K : KpS S W W') {b : Nat} (hb : b < W.heap.size) (hS : ¬ S b) : (∀ o, W'.cell? ⟨b, o, none⟩ = W.cell? ⟨b, o, none⟩) ∧ (∀ o, W'.frozen? ⟨b, o, none⟩ = W.frozen? ⟨b, o, none⟩) :=
  ⟨fun o => World.cell?_of_block (K.block b hb hS), fun o => World.frozen?_of_block (K.block b hb hS)⟩

theorem lit0 (w : World) (o : Obj) : (w.alloc o).heap[w.heap.size]? = some o := World.alloc_heap_new w o
theorem lit1 (w : World) (o o2 : Obj) : ((w.alloc o).alloc o2).heap[w.heap.size]? = some o := (Below.heap_alloc _ _ _ (by simp)).trans (lit0 w o)
theorem lit2 (w : World) (o o2 : Obj) : ((w.alloc o).alloc o2).heap[w.heap.size + 1]? = some o2 := by
  have := lit0 (w.alloc o) o2
  rwa [show (w.alloc o).heap.size = w.heap.size + 1 by simp] at this
theorem lit0d (w : World) (o : Obj) : (w.alloc o).drew.heap[w.heap.size]? = some o := lit0 w o
theorem lit1d (w : World) (o o2 : Obj) : ((w.alloc o).alloc o2).drew.heap[w.heap.size]? = some o := lit1 w o o2
theorem lit2d (w : World) (o o2 : Obj) : ((w.alloc o).alloc o2).drew.heap[w.heap.size + 1]? = some o2 := lit2 w o o2

section
variable {W : World} {base A Cb : Nat} {bv pv lv cv : Value} {bh ch : List Hdr} {al : List Bool} {pl : List Int} {n N wk : Int}

/-- both rows are others -/
theorem NmRep.rows {W' : World} {pv' lv' : Value} {al' : List Bool} {pl' : List Int} (h : NmRep W base A Cb bv pv lv cv bh ch al pl n N wk) (K : KpS (fun k => k = A ∨ pv.ownBlock = some k ∨ lv.ownBlock = some k) W W')
    (hb : W'.heap[A]? = some (Obj.cells #[.pointer (some ⟨Cb, 0, none⟩), bv, pv', lv', .int .i64 n] 72 (0, 0)))
    (hp : W'.ownsRow base 3 1 pv' pl'.length (pl'.map (Value.int .i64))) (ha : W'.ownsRow base 4 1 lv' al'.length (al'.map Value.bool)) : NmRep W' base A Cb bv pv' lv' cv bh ch al' pl' n N wk := by
  have hne : ∀ {b : Nat} {cs : Array Value} {t : TypeId} {fr : Nat × Nat}, W.heap[b]? = some (Obj.cells cs t fr) → t ≠ 72 → t ≠ 3 → t ≠ 4 → ¬ (b = A ∨ pv.ownBlock = some b ∨ lv.ownBlock = some b) := by
    rintro b cs t fr hb h1 h2 h3 (h9 | h9 | h9)
    · exact blk_ne hb h.blk h1 h9
    · exact row_ne h.prow hb h2 _ h9 rfl
    · exact row_ne h.arow hb h3 _ h9 rfl
  have hrow : ∀ {e : TypeId} {sz : Nat} {v : Value} {n : Nat} {xs : List Value}, W.ownsRow base e sz v n xs → e ≠ 72 → e ≠ 3 → e ≠ 4 → W'.ownsRow base e sz v n xs := fun hr h1 h2 h3 =>
    rowK hr K fun gb e => by
      rcases hr.2 with ⟨rfl, _⟩ | ⟨g, cap, cur, rfl, _, hh, _⟩
      · cases e
      · simp only [Value.ownBlock, Option.some.injEq] at e
        subst e
        exact hne hh h1 h2 h3
  exact ⟨h.hb, hb, ⟨h.car.hb, blkK K h.car.blk (hne h.car.blk (by decide) (by decide) (by decide)), hrow h.car.row (by decide) (by decide) (by decide)⟩, hrow h.brow (by decide) (by decide) (by decide), hp, ha,
    h.bE.kept fun b cur fr hk => K.block b (Array.getElem?_eq_some_iff.1 hk).1 (hne hk (by decide) (by decide) (by decide)), h.cE.kept fun b cur fr hk => K.block b (Array.getElem?_eq_some_iff.1 hk).1 (hne hk (by decide) (by decide) (by decide)), h.sep⟩

theorem setA_blk {w : World} {A i : Nat} {cs cs' : Array Value} {t : TypeId} {v : Value} (h : w.heap[A]? = some (Obj.cells cs t (0, 0))) (e : cs' = cs.setIfInBounds i v) : (w.setCell ⟨A, i, none⟩ v).heap[A]? = some (Obj.cells cs' t (0, 0)) := by
  rw [heap_setCell_same w A i _ _ _ h, e]

/-- a directory but for what stands in its buckets -/
structure NmCore (W : World) (base A Cb : Nat) (bv pv lv cv : Value) (bh ch : List Hdr) (al : List Bool) (pl : List Int) (n N wk : Int) : Prop where
  hb : base ≤ A
  blk : W.heap[A]? = some (Obj.cells #[.pointer (some ⟨Cb, 0, none⟩), bv, pv, lv, .int .i64 n] 72 (0, 0))
  car : CarAt W base Cb cv ch N wk
  brow : W.ownsRow base 89 1 bv bh.length (bh.map eHdr)
  prow : W.ownsRow base 3 1 pv pl.length (pl.map (Value.int .i64))
  arow : W.ownsRow base 4 1 lv al.length (al.map Value.bool)
  sep : bv.ownBlock = none ∨ bv.ownBlock ≠ cv.ownBlock

theorem NmRep.core (h : NmRep W base A Cb bv pv lv cv bh ch al pl n N wk) : NmCore W base A Cb bv pv lv cv bh ch al pl n N wk := ⟨h.hb, h.blk, h.car, h.brow, h.prow, h.arow, h.sep⟩
theorem NmCore.rep (h : NmCore W base A Cb bv pv lv cv bh ch al pl n N wk) (hb : RowsE W bh) (hc : RowsE W ch) : NmRep W base A Cb bv pv lv cv bh ch al pl n N wk := ⟨h.hb, h.blk, h.car, h.brow, h.prow, h.arow, hb, hc, h.sep⟩
theorem NmCore.cell (h : NmCore W base A Cb bv pv lv cv bh ch al pl n N wk) :
    W.cell? ⟨A, 0, none⟩ = some (.pointer (some ⟨Cb, 0, none⟩)) ∧ W.cell? ⟨A, 1, none⟩ = some bv ∧ W.cell? ⟨A, 2, none⟩ = some pv ∧ W.cell? ⟨A, 3, none⟩ = some lv ∧ W.cell? ⟨A, 4, none⟩ = some (.int .i64 n) := by
  have := h.blk
  refine ⟨?_, ?_, ?_, ?_, ?_⟩ <;> simp [World.cell?, this]
theorem NmCore.frozen (h : NmCore W base A Cb bv pv lv cv bh ch al pl n N wk) (j : Nat) : W.frozen? ⟨A, j, none⟩ = false := by
  have := h.blk
  simp [World.frozen?, this]
theorem NmCore.lt (h : NmCore W base A Cb bv pv lv cv bh ch al pl n N wk) : A < W.heap.size := (Array.getElem?_eq_some_iff.1 h.blk).1
theorem NmCore.below {W' : World} (h : NmCore W base A Cb bv pv lv cv bh ch al pl n N wk) (hb : Below W.heap.size W W') : NmCore W' base A Cb bv pv lv cv bh ch al pl n N wk :=
  ⟨h.hb, (below_heap hb h.blk).trans h.blk, h.car.below hb, ownsRow_below h.brow hb, ownsRow_below h.prow hb, ownsRow_below h.arow hb, h.sep⟩

/-- rows of unlike types lie in unlike blocks -/
theorem rows_ne {base1 base2 : Nat} {e e' : TypeId} {sz sz' k k' : Nat} {v v' : Value} {xs xs' : List Value} (h : W.ownsRow base1 e sz v k xs) (h' : W.ownsRow base2 e' sz' v' k' xs') (hte : e ≠ e') : ∀ gb, v.ownBlock = some gb → v'.ownBlock ≠ some gb := by
  intro gb he he'
  rcases h'.2 with ⟨rfl, _⟩ | ⟨g, cap, cur, rfl, _, hh, _⟩
  · cases he'
  · simp only [Value.ownBlock, Option.some.injEq] at he'
    subst he'
    exact row_ne h hh (Ne.symm hte) _ he rfl

/-- the blocks in which a directory may be written -/
def mutS (A Cb : Nat) (bv pv lv cv : Value) (k : Nat) : Prop := k = A ∨ k = Cb ∨ bv.ownBlock = some k ∨ pv.ownBlock = some k ∨ lv.ownBlock = some k ∨ cv.ownBlock = some k

/-- the carry was added to -/
theorem NmCore.add {W' : World} {cv' : Value} {ch' : List Hdr} {N' wk' : Int} (h : NmCore W base A Cb bv pv lv cv bh ch al pl n N wk) (K : KpS (fun k => k = Cb ∨ cv.ownBlock = some k) W W') (hc : CarAt W' base Cb cv' ch' N' wk') (hs : cv'.ownBlock = cv.ownBlock ∨ cv'.ownBlock = none ∨ ∃ b, cv'.ownBlock = some b ∧ W.heap.size ≤ b) :
    NmCore W' base A Cb bv pv lv cv' bh ch' al pl n N' wk' := by
  have hrow : ∀ {e : TypeId} {sz : Nat} {v : Value} {n : Nat} {xs : List Value}, W.ownsRow base e sz v n xs → e ≠ 105 → (∀ gb, v.ownBlock = some gb → cv.ownBlock ≠ some gb) → W'.ownsRow base e sz v n xs := fun hr h1 h2 =>
    rowK hr K fun gb e => by
      rintro (h9 | h9)
      · exact row_ne hr h.car.blk (Ne.symm h1) gb e h9.symm
      · exact h2 gb e h9
  refine ⟨h.hb, blkK K h.blk ?_, hc, hrow h.brow (by decide) ?_, hrow h.prow (by decide) (rows_ne h.prow h.car.row (by decide)), hrow h.arow (by decide) (rows_ne h.arow h.car.row (by decide)), ?_⟩
  · rintro (h9 | h9)
    · exact blk_ne h.blk h.car.blk (by decide) h9
    · exact row_ne h.car.row h.blk (by decide) _ h9 rfl
  · intro gb e e2
    rcases h.sep with h9 | h9
    · rw [h9] at e; cases e
    · exact h9 (e.trans e2.symm)
  · rcases hs with h9 | h9 | ⟨b, h9, h8⟩
    · rw [h9]; exact h.sep
    · rw [h9]
      rcases Option.eq_none_or_eq_some bv.ownBlock with h7 | ⟨x, h7⟩
      · exact .inl h7
      · exact .inr (by rw [h7]; simp)
    · rw [h9]
      right
      intro e
      have := (h.brow.lt b e).2
      omega

/-- a bucket's header is written -/
theorem NmCore.setB {g k cp : Nat} (h : NmCore W base A Cb (.slice (some ⟨g, 0, none⟩) k cp) pv lv cv bh ch al pl n N wk) (hk : k = bh.length) (m : Nat) (x : Hdr) : NmCore (W.setCell ⟨g, m, none⟩ (eHdr x)) base A Cb (.slice (some ⟨g, 0, none⟩) k cp) pv lv cv (bh.set m x) ch al pl n N wk := by
  subst hk
  obtain ⟨cur, hg⟩ := row_blk h.brow
  have hgc : ∀ gb, cv.ownBlock = some gb → g ≠ gb := by
    rintro gb e rfl
    rcases h.sep with h9 | h9
    · cases h9
    · exact h9 e.symm
  refine ⟨h.hb, (heap_setNe (blk_ne hg h.blk (by decide))).trans h.blk, ⟨h.car.hb, (heap_setNe (blk_ne hg h.car.blk (by decide))).trans h.car.blk, owns_sameH h.car.row fun gb e => heap_setNe (hgc gb e)⟩, ?_, owns_sameH h.prow fun gb e => heap_setNe (row_ne h.prow hg (by decide) gb e), owns_sameH h.arow fun gb e => heap_setNe (row_ne h.arow hg (by decide) gb e), h.sep⟩
  rw [List.length_set, List.map_set]
  exact (h.brow.stored m (eHdr x)).1

/-- a bucket more, or none -/
theorem NmCore.bucks {W' : World} {bv' : Value} {bh' : List Hdr} (h : NmCore W base A Cb bv pv lv cv bh ch al pl n N wk) (hg : W.grownBy W' bv.ownBlock) (ho : W'.ownsRow base 89 1 bv' bh'.length (bh'.map eHdr)) (hs : bv'.ownBlock = bv.ownBlock ∨ bv'.ownBlock = none ∨ ∃ b, bv'.ownBlock = some b ∧ W.heap.size ≤ b) :
    NmCore (W'.setCell ⟨A, 1, none⟩ bv') base A Cb bv' pv lv cv bh' ch al pl n N wk := by
  have K : KpS (fun k => bv.ownBlock = some k) W W' := (KpS.refl _ W).grown hg (fun k hk => .inl hk)
  have hA : W'.heap[A]? = some (Obj.cells #[.pointer (some ⟨Cb, 0, none⟩), bv, pv, lv, .int .i64 n] 72 (0, 0)) := blkK K h.blk fun e => row_ne h.brow h.blk (by decide) _ e rfl
  have hcr : W'.ownsRow base 89 1 cv ch.length (ch.map eHdr) := rowK h.car.row K fun gb e e2 => by
    rcases h.sep with h9 | h9
    · rw [h9] at e2; cases e2
    · exact h9 (e2.trans e.symm)
  have hsep : bv'.ownBlock = none ∨ bv'.ownBlock ≠ cv.ownBlock := by
    rcases hs with h9 | h9 | ⟨b, h9, h8⟩
    · rw [h9]; exact h.sep
    · exact .inl h9
    · rw [h9]
      right
      intro e
      have := (h.car.row.lt b e.symm).2
      omega
  refine ⟨h.hb, setA_blk hA rfl, ⟨h.car.hb, (heap_setNe (blk_ne h.blk h.car.blk (by decide))).trans (blkK K h.car.blk fun e => row_ne h.brow h.car.blk (by decide) _ e rfl), owns_sameH hcr fun gb e => heap_setNe (row_ne hcr hA (by decide) gb e)⟩,
    owns_sameH ho fun gb e => heap_setNe (row_ne ho hA (by decide) gb e), ?_, ?_, hsep⟩
  · have := rowK h.prow K fun gb e e2 => rows_ne h.prow h.brow (by decide) gb e e2
    exact owns_sameH this fun gb e => heap_setNe (row_ne this hA (by decide) gb e)
  · have := rowK h.arow K fun gb e e2 => rows_ne h.arow h.brow (by decide) gb e e2
    exact owns_sameH this fun gb e => heap_setNe (row_ne this hA (by decide) gb e)
end

section
variable {W : World} {base A Cb : Nat} {bv pv lv cv : Value} {bh ch : List Hdr} {al : List Bool} {pl : List Int} {n N wk : Int}
/-- a row of entries is written -/
theorem NmCore.ent {W' : World} {base' k : Nat} {v : Value} {xs : List Value} (h : NmCore W base A Cb bv pv lv cv bh ch al pl n N wk) (ho : W.ownsRow base' 86 2 v k xs) (hg : W.grownBy W' v.ownBlock) : NmCore W' base A Cb bv pv lv cv bh ch al pl n N wk := by
  have K : KpS (fun k => v.ownBlock = some k) W W' := (KpS.refl _ W).grown hg (fun k hk => .inl hk)
  exact ⟨h.hb, blkK K h.blk fun e => row_ne ho h.blk (by decide) _ e rfl, ⟨h.car.hb, blkK K h.car.blk fun e => row_ne ho h.car.blk (by decide) _ e rfl, rowK h.car.row K fun gb e e2 => rows_ne h.car.row ho (by decide) gb e e2⟩,
    rowK h.brow K fun gb e e2 => rows_ne h.brow ho (by decide) gb e e2, rowK h.prow K fun gb e e2 => rows_ne h.prow ho (by decide) gb e e2, rowK h.arow K fun gb e e2 => rows_ne h.arow ho (by decide) gb e e2, h.sep⟩
theorem KpS.strip {S : Nat → Prop} {w1 : World} (h : KpS (fun k => S k ∨ W.heap.size ≤ k) W w1) : KpS S W w1 := ⟨h.os, h.tape, h.output, h.size, fun k hk hn => h.block k hk fun h9 => by rcases h9 with h9 | h9; exact hn h9; omega⟩

/-- entries stay where a directory alone is written -/
theorem NmCore.entKept {W' : World} (h : NmCore W base A Cb bv pv lv cv bh ch al pl n N wk) {T : Nat → Prop} (K : KpS (fun k => mutS A Cb bv pv lv cv k ∨ T k) W W') (b : Nat) (cur : Array Value) (fr : Nat × Nat) (hb : W.heap[b]? = some (Obj.cells cur 86 fr)) (hT : ¬ T b) : W'.heap[b]? = W.heap[b]? := by
  refine K.block b (Array.getElem?_eq_some_iff.1 hb).1 ?_
  rintro ((h9 | h9 | h9 | h9 | h9 | h9) | h9)
  · exact blk_ne hb h.blk (by decide) h9
  · exact blk_ne hb h.car.blk (by decide) h9
  · exact row_ne h.brow hb (by decide) _ h9 rfl
  · exact row_ne h.prow hb (by decide) _ h9 rfl
  · exact row_ne h.arow hb (by decide) _ h9 rfl
  · exact row_ne h.car.row hb (by decide) _ h9 rfl
  · exact hT h9

/-- how long the buckets' header is -/
def hdrLen (A : Nat) (w : World) : Nat := match w.cell? ⟨A, 1, none⟩ with | some (.slice _ n _) => n | _ => 0
theorem NmCore.hdrLen (h : NmCore W base A Cb bv pv lv cv bh ch al pl n N wk) : hdrLen A W = bh.length := by
  obtain ⟨av, cp, rfl, -, -, -⟩ := Rd.of_owns (enc := eHdr) h.brow
  unfold Proofs.Ytpebefcmloablaa.hdrLen
  rw [h.cell.2.1]
end

/-- the first k buckets emptied -/
def hdK (bh : List Hdr) (k : Nat) : List Hdr := List.replicate k nilH ++ bh.drop k
theorem hdK_len {bh : List Hdr} {k : Nat} (hk : k ≤ bh.length) : (hdK bh k).length = bh.length := by simp [hdK]; omega
theorem hdK_set {bh : List Hdr} {k : Nat} (hk : k < bh.length) : (hdK bh k).set k nilH = hdK bh (k + 1) := by
  unfold hdK
  rw [List.set_append_right _ _ (by simp), List.length_replicate, Nat.sub_self, List.drop_eq_getElem_cons hk, List.set_cons_zero, List.replicate_succ', List.append_assoc]
  rfl
theorem hdK_map {bh bh1 : List Hdr} {i : Nat} (h : bh1 = bh ∧ i < bh.length ∨ bh1 = bh ++ [nilH] ∧ i = bh.length) (hd : Hdr) : ((hdK bh1 i).set i hd).map (·.2.1) = List.replicate i [] ++ hd.2.1 :: (bh.map (·.2.1)).drop (i + 1) := by
  have hil : i < bh1.length := by rcases h with ⟨rfl, h⟩ | ⟨rfl, h⟩ <;> first | omega | (simp; omega)
  have hdr : (bh1.drop (i + 1)).map (·.2.1) = (bh.map (·.2.1)).drop (i + 1) := by
    rcases h with ⟨rfl, h⟩ | ⟨rfl, h⟩
    · rw [List.map_drop]
    · rw [List.drop_of_length_le (by simp; omega), List.drop_of_length_le (by simp; omega)]; rfl
  unfold hdK
  rw [List.set_append_right _ _ (by simp), List.length_replicate, Nat.sub_self, List.drop_eq_getElem_cons hil, List.set_cons_zero, List.map_append, List.map_cons, hdr, List.map_replicate]
theorem hdK_mem {bh bh1 : List Hdr} {i : Nat} (hc : bh1 = bh ∧ i < bh.length ∨ bh1 = bh ++ [nilH] ∧ i = bh.length) {hd h : Hdr} (hh : h ∈ (hdK bh1 i).set i hd) : h = hd ∨ h = nilH ∨ h ∈ bh := by
  rcases List.mem_or_eq_of_mem_set hh with h1 | h1
  · unfold hdK at h1
    rw [List.mem_append] at h1
    rcases h1 with h1 | h1
    · exact .inr (.inl (List.mem_replicate.1 h1).2)
    · have h2 := List.mem_of_mem_drop h1
      rcases hc with ⟨rfl, -⟩ | ⟨rfl, -⟩
      · exact .inr (.inr h2)
      · rcases List.mem_append.1 h2 with h3 | h3
        · exact .inr (.inr h3)
        · exact .inr (.inl (by simpa using h3))
  · exact .inl h1

set_option maxRecDepth 100000 in
set_option maxHeartbeats 1000000 in
/-- names.sorted: which block it writes -/
theorem sorted_grown {w : World} {base n : Nat} {v : Value} {l : List Ent} (hn : l.length = n) (hsz : n < 4611686018427387904) (h : w.ownsRow base 86 2 v n (l.flatMap eEnt)) (hb : base ≤ w.heap.size) :
    Calls Try.prog 52 #[v] w fun e w' => e = .returned v ∧ ∃ l' : List Ent, l'.Perm l ∧ l'.Pairwise (fun x y => x.1 ≤ y.1) ∧ w'.ownsRow base 86 2 v n (l'.flatMap eEnt) ∧ w.grownBy w' v.ownBlock := by
  rcases h.2 with ⟨rfl, h0⟩ | ⟨g, cap, cur, rfl, hg, _⟩
  · subst h0
    obtain rfl : l = [] := List.eq_nil_of_length_eq_zero hn
    have hh := Lib.hid h
    clear h
    go_enter Try.func52, Try.ntmps52
    go_wp2_with fail
    refine (sortEnt_none none 0 _ w).mono ?_
    rintro e w' ⟨rfl, rfl⟩
    go_wp2
    go_ret
    exact ⟨rfl, [], List.Perm.refl _, List.Pairwise.nil, hh.out, ⟨rfl, rfl, rfl, Nat.le_refl _, fun _ _ _ => rfl⟩⟩
  · have C := Lib.hid (sortEnt hn hsz h)
    clear h
    go_enter Try.func52, Try.ntmps52
    go_wp2_with fail
    refine C.out.mono ?_
    rintro e w' ⟨rfl, l', hp, hs, ho, hgr⟩
    go_wp2
    go_ret
    exact ⟨rfl, l', hp, hs, ho, hgr⟩

end Go.Proofs.Ytpebefcmloablaa
