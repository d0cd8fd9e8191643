/- carry.Carry at entries: how it lies in memory; none, Add. -/
import Derived.Test.YtpebefcmloablaaFnd
import Derived.Test.YtpebefcmloablaaIns
import Derived.Deep.CutRange
import Derived.Deep.RegionLaw
import Derived.Deep.RegionHeld3
namespace Go.Proofs.Ytpebefcmloablaa
open Go.RowKit Go.Maps
set_option linter.unusedSimpArgs false
set_option linter.unusedVariables false

/-- blocks outside S stay -/
structure KpS (S : Nat → Prop) (W w' : World) : Prop where
  os : w'.os = W.os
  tape : w'.tape = W.tape
  output : w'.output = W.output
  size : W.heap.size ≤ w'.heap.size
  block : ∀ k, k < W.heap.size → ¬ S k → w'.heap[k]? = W.heap[k]?

theorem KpS.refl (S : Nat → Prop) (W : World) : KpS S W W := ⟨rfl, rfl, rfl, Nat.le_refl _, fun _ _ _ => rfl⟩
theorem KpS.trans {S : Nat → Prop} {W w1 w2 : World} (h : KpS S W w1) (h2 : KpS S w1 w2) : KpS S W w2 :=
  ⟨h2.os.trans h.os, h2.tape.trans h.tape, h2.output.trans h.output, Nat.le_trans h.size h2.size, fun k hk hs => (h2.block k (Nat.lt_of_lt_of_le hk h.size) hs).trans (h.block k hk hs)⟩
theorem KpS.below {S : Nat → Prop} {W w1 w2 : World} (h : KpS S W w1) (h2 : Below w1.heap.size w1 w2) : KpS S W w2 :=
  ⟨h2.os.trans h.os, h2.tape.trans h.tape, h2.output.trans h.output, Nat.le_trans h.size h2.size, fun k hk hs => (h2.block k (Nat.lt_of_lt_of_le hk h.size)).trans (h.block k hk hs)⟩
theorem KpS.grown {S : Nat → Prop} {W w1 w2 : World} {r : Option Nat} (h : KpS S W w1) (h2 : w1.grownBy w2 r) (hr : ∀ k, r = some k → S k ∨ W.heap.size ≤ k) : KpS S W w2 :=
  ⟨h2.os.trans h.os, h2.tape.trans h.tape, h2.output.trans h.output, Nat.le_trans h.size h2.size, fun k hk hs => (h2.block k (Nat.lt_of_lt_of_le hk h.size) (fun e => by rcases hr k e.symm with h9 | h9; exact hs h9; omega)).trans (h.block k hk hs)⟩
theorem KpS.set {S : Nat → Prop} {W w1 : World} (h : KpS S W w1) {a : Addr} (v : Value) (ha : S a.block ∨ W.heap.size ≤ a.block) : KpS S W (w1.setCell a v) :=
  ⟨h.os, h.tape, h.output, by simpa using h.size, fun k hk hs => (heap_setNe (fun e => by rcases ha with h9 | h9; exact hs (e ▸ h9); omega)).trans (h.block k hk hs)⟩
theorem KpS.drew {S : Nat → Prop} {W w1 : World} (h : KpS S W w1) : KpS S W w1.drew := ⟨h.os, h.tape, h.output, h.size, h.block⟩
theorem KpS.mono {S S' : Nat → Prop} {W w1 : World} (h : KpS S W w1) (hs : ∀ k, S k → S' k) : KpS S' W w1 := ⟨h.os, h.tape, h.output, h.size, fun k hk h9 => h.block k hk fun h8 => h9 (hs k h8)⟩
theorem KpS.toBelow {S : Nat → Prop} {B : Nat} {W w1 : World} (h : KpS S W w1) (hB : B ≤ W.heap.size) (hs : ∀ k, S k → B ≤ k) : Below B W w1 := ⟨h.os, h.tape, h.output, h.size, fun k hk => h.block k (by omega) fun h9 => by have := hs k h9; omega⟩

theorem rowMono {w : World} {base base' : Nat} {e : TypeId} {size : Nat} {v : Value} {n : Nat} {xs : List Value} (h : w.ownsRow base e size v n xs) (hb : base' ≤ base) : w.ownsRow base' e size v n xs := by
  obtain ⟨h1, h2⟩ := h
  refine ⟨h1, ?_⟩
  rcases h2 with h2 | ⟨g, cap, cur, hv, hg, r⟩
  · exact .inl h2
  · exact .inr ⟨g, cap, cur, hv, Nat.le_trans hb hg, r⟩

abbrev nilH : Hdr := (none, [], 0)

/-- a carry at block Cb -/
structure CarAt (W : World) (base Cb : Nat) (cv : Value) (ch : List Hdr) (N wk : Int) : Prop where
  hb : base ≤ Cb
  blk : W.heap[Cb]? = some (Obj.cells #[.bool true, cv, .int .i64 N, .int .i64 wk] 105 (0, 0))
  row : W.ownsRow base 89 1 cv ch.length (ch.map eHdr)

theorem CarAt.cell {W : World} {base Cb : Nat} {cv : Value} {ch : List Hdr} {N wk : Int} (h : CarAt W base Cb cv ch N wk) :
    W.cell? ⟨Cb, 0, none⟩ = some (.bool true) ∧ W.cell? ⟨Cb, 1, none⟩ = some cv ∧ W.cell? ⟨Cb, 2, none⟩ = some (.int .i64 N) ∧ W.cell? ⟨Cb, 3, none⟩ = some (.int .i64 wk) := by
  have := h.blk
  refine ⟨?_, ?_, ?_, ?_⟩ <;> simp [World.cell?, this]
theorem CarAt.frozen {W : World} {base Cb : Nat} {cv : Value} {ch : List Hdr} {N wk : Int} (h : CarAt W base Cb cv ch N wk) (j : Nat) : W.frozen? ⟨Cb, j, none⟩ = false := by
  have := h.blk
  simp [World.frozen?, this]
theorem CarAt.lt {W : World} {base Cb : Nat} {cv : Value} {ch : List Hdr} {N wk : Int} (h : CarAt W base Cb cv ch N wk) : Cb < W.heap.size := (Array.getElem?_eq_some_iff.1 h.blk).1

/-- the header's block is another one -/
theorem CarAt.ne {W : World} {base Cb : Nat} {cv : Value} {ch : List Hdr} {N wk : Int} (h : CarAt W base Cb cv ch N wk) : cv.ownBlock ≠ some Cb := by
  intro e
  rcases h.row.2 with ⟨rfl, _⟩ | ⟨g, cap, cur, rfl, _, hh, _⟩
  · cases e
  · simp only [Value.ownBlock, Option.some.injEq] at e
    subst e
    rw [h.blk] at hh
    injection hh with hh
    injection hh with _ hh _
    exact absurd hh (by decide)

theorem CarAt.grown {W W' : World} {base Cb : Nat} {cv : Value} {ch : List Hdr} {N wk : Int} {r : Option Nat} (h : CarAt W base Cb cv ch N wk) (hg : W.grownBy W' r) (h1 : r ≠ some Cb) (h2 : cv.ownBlock = none ∨ cv.ownBlock ≠ r) : CarAt W' base Cb cv ch N wk :=
  ⟨h.hb, (hg.block Cb h.lt (fun e => h1 e.symm)).trans h.blk, h.row.kept hg h2⟩
theorem CarAt.below {W W' : World} {base Cb : Nat} {cv : Value} {ch : List Hdr} {N wk : Int} (h : CarAt W base Cb cv ch N wk) (hb : Below W.heap.size W W') : CarAt W' base Cb cv ch N wk :=
  h.grown (below_asGrown hb) (by simp) (by cases hv : cv.ownBlock <;> simp)
theorem CarAt.drew {W : World} {base Cb : Nat} {cv : Value} {ch : List Hdr} {N wk : Int} (h : CarAt W base Cb cv ch N wk) : CarAt W.drew base Cb cv ch N wk := ⟨h.hb, h.blk, h.row⟩

/-- a header is written -/
theorem CarAt.setH {W : World} {base Cb g cp n : Nat} {ch : List Hdr} {N wk : Int} (h : CarAt W base Cb (.slice (some ⟨g, 0, none⟩) n cp) ch N wk) (hn : n = ch.length) (k : Nat) (x : Hdr) : CarAt (W.setCell ⟨g, k, none⟩ (eHdr x)) base Cb (.slice (some ⟨g, 0, none⟩) n cp) (ch.set k x) N wk := by
  subst hn
  have h1 := h.row.stored k (eHdr x)
  have hne := h.ne
  refine ⟨h.hb, (heap_setNe (fun e => hne (by simp only [Value.ownBlock]; exact congrArg some e))).trans h.blk, ?_⟩
  rw [List.map_set, List.length_set]
  exact h1.1

/-- a field is written -/
theorem CarAt.setN {W : World} {base Cb : Nat} {cv : Value} {ch : List Hdr} {N wk : Int} (h : CarAt W base Cb cv ch N wk) (N' : Int) : CarAt (W.setCell ⟨Cb, 2, none⟩ (.int .i64 N')) base Cb cv ch N' wk := by
  refine ⟨h.hb, ?_, owns_sameH h.row fun gb e => heap_setNe fun e2 => h.ne (by rw [e, ← e2])⟩
  rw [heap_setCell_same W Cb 2 _ _ _ h.blk]
  rfl
theorem CarAt.setW {W : World} {base Cb : Nat} {cv : Value} {ch : List Hdr} {N wk : Int} (h : CarAt W base Cb cv ch N wk) (wk' : Int) : CarAt (W.setCell ⟨Cb, 3, none⟩ (.int .i64 wk')) base Cb cv ch N wk' := by
  refine ⟨h.hb, ?_, owns_sameH h.row fun gb e => heap_setNe fun e2 => h.ne (by rw [e, ← e2])⟩
  rw [heap_setCell_same W Cb 3 _ _ _ h.blk]
  rfl
/-- the header's slice is written -/
theorem CarAt.setV {W : World} {base Cb : Nat} {cv cv' : Value} {ch ch' : List Hdr} {N wk : Int} (h : W.heap[Cb]? = some (Obj.cells #[.bool true, cv, .int .i64 N, .int .i64 wk] 105 (0, 0))) (hb : base ≤ Cb) (hr : W.ownsRow base 89 1 cv' ch'.length (ch'.map eHdr)) (hne : cv'.ownBlock ≠ some Cb) : CarAt (W.setCell ⟨Cb, 1, none⟩ cv') base Cb cv' ch' N wk := by
  refine ⟨hb, ?_, owns_sameH hr fun gb e => heap_setNe fun e2 => hne (by rw [e, ← e2])⟩
  rw [heap_setCell_same W Cb 1 _ _ _ h]
  rfl

/-- entries stay where the carry alone is written -/
theorem CarAt.entKept {W W' : World} {base Cb : Nat} {cv : Value} {ch : List Hdr} {N wk : Int} (h : CarAt W base Cb cv ch N wk) {SB : Option Nat} (hS : SB = cv.ownBlock) (K : KpS (fun k => k = Cb ∨ SB = some k) W W') :
    ∀ (b : Nat) cur fr, W.heap[b]? = some (Obj.cells cur 86 fr) → W'.heap[b]? = W.heap[b]? := by
  intro b cur fr hb
  refine K.block b (Array.getElem?_eq_some_iff.1 hb).1 ?_
  rintro (rfl | e)
  · rw [h.blk] at hb
    injection hb with hb
    injection hb with _ hb _
    exact absurd hb (by decide)
  · rw [hS] at e
    rcases h.row.2 with ⟨rfl, _⟩ | ⟨g, cap, cur', rfl, _, hh, _⟩
    · cases e
    · simp only [Value.ownBlock, Option.some.injEq] at e
      subst e
      rw [hh] at hb
      injection hb with hb
      injection hb with _ hb _
      exact absurd hb (by decide)

set_option maxRecDepth 100000 in
set_option maxHeartbeats 1000000 in
theorem car_none {W : World} {base Cb : Nat} {cv : Value} {ch : List Hdr} {N wk : Int} (h : CarAt W base Cb cv ch N wk) : Calls Try.prog 65 #[.pointer (some ⟨Cb, 0, none⟩)] W fun e w' => e = .returned (.bool false) ∧ Below W.heap.size W w' := by
  obtain ⟨c0, -⟩ := h.cell
  clear h
  go_enter Try.func65, Try.ntmps65
  go_wp2
  go_ret
  exact ⟨rfl, Below.refl _ _⟩

end Go.Proofs.Ytpebefcmloablaa
