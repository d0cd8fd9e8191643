/- Several texts in one: Unl, Rgt, Back, Rnd, Scan, SkyOf, RfR. -/
import Derived.Test.YtggfdlanobndjaaGreatQ4
import Derived.Test.YtggfdlanobndjaaGreatQ5
import Derived.Maps.OwnOps
import Derived.RangeFuncNested
import Derived.RangeFuncBound
import Derived.RangeFuncCalls
import Derived.RangeFuncLeaves
import Derived.RangeFuncBox
import Derived.Shelf.Abstract
import Derived.Shelf.RegionOpen
import Derived.OwnWalkIn
import Derived.TacticsInMore
import Derived.LoopNIn
import Derived.LoopIn
import Derived.Test.YtggfdlanobndjaaGreatQ1
import Derived.Sort.QuietIn
import Derived.Test.YtggfdlanobndjaaGreatQ3
import Derived.Maps.AppendAt
import Derived.Deep.AppendLies

/- stair.unlike: is no name there twice, in some lists? -/
namespace Go.Proofs.YtggfdlanobndjaaGreat
open Go.RowKit Go.Maps

/-- lists of points that lie in a row of slices -/
def Lsts (W : World) (X : Nat) (LS : List (Option Addr × List Pt × Nat)) : Prop :=
  ∀ (j : Nat) (h : j < LS.length), W.cell? ⟨X, j, none⟩ = some (.slice LS[j].1 LS[j].2.1.length LS[j].2.2) ∧ RdK ePt 3 W LS[j].1 LS[j].2.1

theorem Lsts.below {W W' : World} {X B : Nat} {LS : List (Option Addr × List Pt × Nat)} (h : Lsts W X LS) (hX : X < B) (hb : Below B W W') (hB : W.heap.size ≤ B) : Lsts W' X LS := fun j hj =>
  ⟨(hb.cell (p := ⟨X, j, none⟩) hX).trans (h j hj).1, (h j hj).2.below (hb.mono hB)⟩

def allP (LS : List (Option Addr × List Pt × Nat)) : List Pt := LS.flatMap (·.2.1)
def wfI (l : List Pt) : Prop := ∀ p ∈ l, (Lit.int .u32 p.2.2).wf = true

theorem allP_take (LS : List (Option Addr × List Pt × Nat)) (j : Nat) (h : j < LS.length) : allP (LS.take (j + 1)) = allP (LS.take j) ++ LS[j].2.1 := by
  unfold allP
  rw [List.take_succ_eq_append_getElem h, List.flatMap_append, List.flatMap_singleton]
theorem allP_len (LS : List (Option Addr × List Pt × Nat)) (j : Nat) : (allP (LS.take j)).length ≤ (allP LS).length := by
  have h : allP LS = allP (LS.take j) ++ allP (LS.drop j) := by
    unfold allP; rw [← List.flatMap_append, List.take_append_drop]
  rw [h, List.length_append]; omega

/-- a map whose keys are these names -/
def KeysAre {H : Type} (D : DataW H) (L : List Int) : Prop := ∃ f s, IsM .u32 .i64 D f s ∧ ∀ x, (f x).isSome = true ↔ x ∈ L
theorem KeysAre.nil {H : Type} : KeysAre (H := H) (.map []) [] := ⟨_, _, IsM.empty _ _, by simp⟩
theorem KeysAre.put {H : Type} {D : DataW H} {L : List Int} (h : KeysAre D L) (x v : Int) : KeysAre (D.put (.int .u32 x) (.lit (.int .i64 v))) (L ++ [x]) := by
  obtain ⟨f, s, h1, h2⟩ := h
  refine ⟨_, _, h1.put x v, fun y => ?_⟩
  unfold putF
  by_cases hy : y = x
  · simp [hy]
  · simp [hy, h2]
theorem KeysAre.size {H : Type} {D : DataW H} {L : List Int} (h : KeysAre D L) : (((Maps.size D : Nat) : Int) == ((L.length : Nat) : Int)) = decide L.Nodup := by
  obtain ⟨f, s, h1, h2⟩ := h
  rw [h1.2.1, ← len_eq_nodup L s h1.2.2.1 (fun x => (h1.2.2.2.1 x).trans (h2 x))]
  rw [Bool.eq_iff_iff]
  simp only [beq_iff_eq, decide_eq_true_eq]
  omega

end Go.Proofs.YtggfdlanobndjaaGreat

/- stair.Right: is it a stair? -/
namespace Go.Proofs.YtggfdlanobndjaaGreat
open Go.RowKit Go.Maps

def rightF (l : List Pt) : Bool := chainOK l && unl l

theorem chain_no {l : List Pt} {m : Nat} (h : m + 1 < l.length) (hn : ¬ stR l[m] l[m + 1]) : rightF l = false := by
  unfold rightF
  rw [Bool.and_eq_false_iff]
  left
  cases h2 : chainOK l
  · rfl
  · exact absurd ((chainOK_iff l).1 h2 m h) hn

/-- one list, as the variable arguments -/
theorem lsts_one {W : World} {a : Option Addr} {l : List Pt} (c : Nat) (t : TypeId) (h : RdK ePt 3 W a l) : Lsts (W.alloc (.cells #[.slice a l.length c] t)) W.heap.size [(a, l, c)] := by
  intro j hj
  obtain rfl : j = 0 := by simpa using hj
  exact ⟨by rw [World.cell?_alloc_at _ _ _ _ rfl]; rfl, h.below ((Below.refl _ _).alloc (Nat.le_refl _) _)⟩
theorem allP_one (a : Option Addr) (l : List Pt) (c : Nat) : allP [(a, l, c)] = l := by simp [allP]

end Go.Proofs.YtggfdlanobndjaaGreat

/- slices.Backward of points, as an iterator. -/
namespace Go.Proofs.YtggfdlanobndjaaGreat
open Go.RowKit Go.Shelf

attribute [local go_sem] Oper.semAt_some

/-- what lay below n₀ stands, and so does block Bs -/
def Kp2 (n₀ Bs : Nat) (W W' : World) : Prop := Below n₀ W W' ∧ W'.heap[Bs]? = W.heap[Bs]?
theorem Kp2.refl (n₀ Bs : Nat) (W : World) : Kp2 n₀ Bs W W := ⟨Below.refl _ _, rfl⟩
theorem Kp2.trans {n₀ Bs : Nat} {A B C : World} (h : Kp2 n₀ Bs A B) (h2 : Kp2 n₀ Bs B C) : Kp2 n₀ Bs A C := ⟨h.1.trans h2.1, h2.2.trans h.2⟩

/-- the first k that come, from the last one on -/
def bk (zs : List Pt) (k : Nat) : List (Nat × Pt) := (List.range k).map fun j => (zs.length - 1 - j, zs.getD (zs.length - 1 - j) (0, 0, 0))
theorem bk_len (zs : List Pt) (k : Nat) : (bk zs k).length = k := by simp [bk]
theorem bk_succ (zs : List Pt) (k : Nat) : bk zs (k + 1) = bk zs k ++ [(zs.length - 1 - k, zs.getD (zs.length - 1 - k) (0, 0, 0))] := by simp [bk, List.range_succ]
/-- the points that have come, in the slice's own order -/
theorem bk_rev (zs : List Pt) : ∀ k, k ≤ zs.length → ((bk zs k).map (·.2)).reverse = zs.drop (zs.length - k)
  | 0, _ => by simp [bk]
  | k + 1, h => by
    rw [bk_succ, List.map_append, List.reverse_append, bk_rev zs k (by omega)]
    have e : zs.drop (zs.length - (k + 1)) = zs[zs.length - (k + 1)] :: zs.drop (zs.length - (k + 1) + 1) := List.drop_eq_getElem_cons (by omega)
    rw [e, show zs.length - (k + 1) + 1 = zs.length - k by omega]
    simp [show zs.length - 1 - k = zs.length - (k + 1) by omega, show zs.length - (k + 1) < zs.length by omega]

end Go.Proofs.YtggfdlanobndjaaGreat

/- A quiet region inside a round of a range over a function. -/
namespace Go.Proofs.YtggfdlanobndjaaGreat

/-- no defer statement among them -/
def noDefer (l : List Oper) : Bool := l.all fun o => match o.op with | .defer _ => false | _ => true
theorem noDefer_op {l : List Oper} (h : noDefer l = true) {o : Oper} (ho : o ∈ l) : ∀ c, o.op ≠ .defer c := fun c e => by
  have := List.all_eq_true.1 h o ho
  rw [e] at this
  cases this

section
variable {F : Fence} {n : Nat} {P : Program} {ops : Array Oper} {C : World → Prop} {md : Region.Mode}

theorem oper_of_quiet {o : Oper} (hd : ∀ c, o.op ≠ .defer c) {a : Act} {K : Act → Prop} {K' : Act → World → Prop} {Q' : Exit → Act → World → Prop} {w : World} (hw : C w) (h : ∀ a w', C w' → K a → K' a w')
    (ha : o.askedIn F P a C) (hh : o.quietIn F n P a C K) : o.wpIn F n P a w K' Q' := by
  obtain ⟨v, h1, h2⟩ := hh
  refine ⟨ha w hw, ?_⟩
  rw [Oper.semAt_plain F _ _ hd]
  have h3 : Oper.quietUponIn F n P C w v ((execOp a.eval o).run P w) := h1 w hw
  revert h3
  generalize (execOp a.eval o).run P w = r
  intro h3
  rcases r with ⟨x, w'⟩ | ⟨x, w'⟩
  · cases x with
    | value u => obtain ⟨e1, e2⟩ := h3; subst e1 e2; exact h _ _ hw h2
    | skip => obtain ⟨e1, e2⟩ := h3; subst e1 e2; exact h _ _ hw h2
    | enter f args => obtain ⟨e1, hn, hc⟩ := h3; subst e1; exact ⟨hn, hc.mono fun e w'' hq => by obtain ⟨he, hq⟩ := hq; subst he; exact h _ _ hq h2⟩
    | _ => exact h3.elim
  · exact h3.elim

theorem any_of_quiet (hd : ∀ o ∈ ops, ∀ c, o.op ≠ .defer c) {Q : Act → Prop} {Q' : Exit → Act → World → Prop} (hQ : ∀ a w, C w → Q a → Q' .normal a w) : ∀ (fuel : Nat) (listed : Array Bool) (a : Act) (w : World), C w →
    wpAnyQIn F n P md ops C Q fuel listed a → wpAnyIn F n P md ops Q' fuel listed a w
  | 0, _, _, _, hw, h => ⟨h.1, hQ _ _ hw h.2⟩
  | fuel + 1, listed, a, w, hw, h => by
    refine ⟨fun h0 => hQ _ _ hw (h.1 h0), fun i hi => ?_⟩
    have hq := h.2 i hi
    have next : ∀ (a' : Act) (w' : World), C w' → wpAnyQIn F n P md ops C Q fuel (listed.setIfInBounds i true) a' → wpAnyIn F n P md ops Q' fuel (listed.setIfInBounds i true) a' w' := fun a' w' hw' => any_of_quiet hd hQ fuel _ a' w' hw'
    unfold qOpIn at hq
    unfold wpOpIn
    split
    · rename_i e; rw [e] at hq; exact next _ _ hw hq
    · rename_i o e
      rw [e] at hq
      obtain ⟨ha, hq⟩ := hq
      split
      · rename_i hwt
        rw [if_pos hwt] at hq
        exact oper_of_quiet (hd o (Array.mem_of_getElem? e)) hw next ha hq
      · rename_i hwt
        rw [if_neg hwt] at hq
        exact ⟨ha w hw, next _ _ hw hq⟩

theorem region_quiet_rnd {id : Nat} {Q : Exit → Act → World → Prop} {a : Act} {w : World} {l : List Oper} (hm : P.follows .mixedOrders = true) (hB : Region.lexB .any l.toArray = true) (hd : noDefer l = true)
    (h : wpQuietIn F n P l.toArray (fun w' => ∃ n, w' = w.drewN n) (fun a' => ∀ w', (∃ n, w' = w.drewN n) → Q .normal a' w') l a) : (Code.region id l.toArray true).wpIn F n P Q a w := by
  obtain ⟨hB1, hB2⟩ := by simpa only [Region.lexB, Bool.and_eq_true] using hB
  refine wpIn_region_any hm (any_of_quiet (C := fun w' => ∃ n, w' = w.drewN n) (Q := fun a' => ∀ w', (∃ n, w' = w.drewN n) → Q .normal a' w') (fun o ho => noDefer_op hd (by simpa using ho)) (fun _ w' hw' h => h w' hw') _ _ _ _ ⟨1, rfl⟩ ?_)
  have := wpAnyQIn_lex (F := F) (n := n) (P := P) (md := .any) (C := fun w' => ∃ n, w' = w.drewN n) hB1 l 0 (Array.replicate l.toArray.size false) a (by simp) (by simpa using hB2) h
  simpa using this
end

end Go.Proofs.YtggfdlanobndjaaGreat

/- stair.scan: the skyline of points in order. -/
namespace Go.Proofs.YtggfdlanobndjaaGreat
open Go.RowKit Go.Shelf

attribute [local go_sem] Oper.semAt_some

/-- what is gathered, in the order in which it came: the skyline so far, from its other end -/
def scO (O : List Pt) (p : Pt) : List Pt := (stp p O.reverse).reverse
def scR (pre : List (Nat × Pt)) : List Pt := pre.foldl (fun O x => scO O x.2) []
theorem scR_snoc (pre : List (Nat × Pt)) (x : Nat × Pt) : scR (pre ++ [x]) = scO (scR pre) x.2 := by simp [scR]
theorem scR_from : ∀ (pre : List (Nat × Pt)) (O : List Pt), pre.foldl (fun O x => scO O x.2) O = (pre.foldl (fun T x => stp x.2 T) O.reverse).reverse
  | [], O => by simp
  | x :: pre, O => by
    rw [List.foldl_cons, List.foldl_cons, scR_from pre]
    simp [scO]
theorem scR_eq (pre : List (Nat × Pt)) : scR pre = (scanF (pre.map (·.2)).reverse).reverse := by
  unfold scR scanF
  rw [scR_from, List.foldr_reverse, List.foldl_map]
  rfl
theorem scR_bk (zs : List Pt) : scR (bk zs zs.length) = (scanF zs).reverse := by
  rw [scR_eq, bk_rev zs _ (Nat.le_refl _), Nat.sub_self, List.drop_zero]

theorem stp_len (p : Pt) (T : List Pt) : (stp p T).length ≤ T.length + 1 := by
  cases T with
  | nil => simp [stp]
  | cons t T =>
    simp only [stp]
    split
    · simp
    · split
      · have := (List.dropWhile_sublist (fun q : Pt => decide (q.1 = p.1)) (l := t :: T)).length_le
        simp at this ⊢; omega
      · simp
theorem scO_len (O : List Pt) (p : Pt) : (scO O p).length ≤ O.length + 1 := by
  unfold scO; have := stp_len p O.reverse; simpa using this
theorem scR_len : ∀ (pre : List (Nat × Pt)) (O : List Pt), (pre.foldl (fun O x => scO O x.2) O).length ≤ O.length + pre.length
  | [], O => by simp
  | x :: pre, O => by
    rw [List.foldl_cons]
    have h1 := scR_len pre (scO O x.2)
    have h2 := scO_len O x.2
    simp; omega
theorem scR_le (pre : List (Nat × Pt)) : (scR pre).length ≤ pre.length := by have := scR_len pre []; simpa [scR] using this

theorem scO_nil (p : Pt) : scO [] p = [p] := rfl
theorem scO_skip (O : List Pt) (t p : Pt) (h : p.2.1 < t.2.1 ∨ p.2.1 = t.2.1 ∧ p.1 < t.1) : scO (O ++ [t]) p = O ++ [t] := by
  unfold scO
  simp only [List.reverse_append, List.reverse_cons, List.reverse_nil, List.nil_append, List.singleton_append, stp, if_pos h]
  simp
theorem scO_plain (O : List Pt) (t p : Pt) (h : ¬ (p.2.1 < t.2.1 ∨ p.2.1 = t.2.1 ∧ p.1 < t.1)) (h2 : ¬ (p.1 = t.1 ∧ t.2.1 < p.2.1)) : scO (O ++ [t]) p = (O ++ [t]) ++ [p] := by
  unfold scO
  simp only [List.reverse_append, List.reverse_cons, List.reverse_nil, List.nil_append, List.singleton_append, stp, if_neg h, if_neg h2]
  simp
theorem scO_drop (O : List Pt) (t p : Pt) (m : Nat) (h : ¬ (p.2.1 < t.2.1 ∨ p.2.1 = t.2.1 ∧ p.1 < t.1)) (h2 : p.1 = t.1 ∧ t.2.1 < p.2.1) (hm : m ≤ (O ++ [t]).length) (h3 : ∀ q ∈ (O ++ [t]).drop m, q.1 = p.1) (h4 : m = 0 ∨ ∃ hk : m - 1 < (O ++ [t]).length, (O ++ [t])[m - 1].1 ≠ p.1) :
    scO (O ++ [t]) p = (O ++ [t]).take m ++ [p] := by
  have e : (O ++ [t]).reverse = t :: O.reverse := by simp
  unfold scO
  rw [e]
  simp only [stp, if_neg h, if_pos h2]
  rw [← e]
  generalize O ++ [t] = L at *
  have e2 : L.reverse = (L.drop m).reverse ++ (L.take m).reverse := by rw [← List.reverse_append, List.take_append_drop]
  rw [e2, List.dropWhile_append_of_pos (by simpa using h3)]
  have e3 : (L.take m).reverse.dropWhile (fun q => decide (q.1 = p.1)) = (L.take m).reverse := by
    rcases h4 with rfl | ⟨hk, h4⟩
    · simp
    · rcases Nat.eq_zero_or_pos m with rfl | hm0
      · simp
      · have e4 : L.take m = L.take (m - 1) ++ [L[m - 1]] := by
          have := List.take_succ_eq_append_getElem hk
          rw [show m - 1 + 1 = m by omega] at this
          exact this
        rw [e4, List.reverse_append, List.reverse_singleton, List.singleton_append, List.dropWhile_cons_of_neg (by simpa using h4)]
  rw [e3]
  simp

theorem blk_own {β : Type} (B : Nat) (t : TypeId) (cs : β → Array Value) : Own (fun s W => W.heap[B]? = some (.cells (cs s) t (0, 0))) := fun s X Y row hs hg hrow =>
  (hg.block B (Array.getElem?_eq_some_iff.1 hs).1 (fun e' => by obtain ⟨o, ho, hc⟩ := hrow B e'.symm; rw [hs] at ho; cases ho; cases hc)).trans hs

/-- the variable in block n₀ holds a slice of the call's own with these points -/
def OutIs (n₀ : Nat) (T : List Pt) (W : World) : Prop := ∃ v, Boxed W n₀ 22 v ∧ W.ownsRow n₀ 34 3 v T.length (T.flatMap ePt)
theorem outIs_own (n₀ : Nat) : Own (fun (pre : List (Nat × Pt)) W => OutIs n₀ (scR pre) W) := fun s X Y row hs hg hrow => by
  obtain ⟨v, h1, h2⟩ := hs
  obtain ⟨v', a, b, _⟩ := holdsRow_own n₀ n₀ 22 34 3 (fun pre => (scR pre).length) (fun pre => (scR pre).flatMap ePt) (fun _ _ => True) s X Y row ⟨v, h1, h2, trivial⟩ hg hrow
  exact ⟨v', a, b⟩
theorem OutIs.alloc {n₀ : Nat} {T : List Pt} {W : World} (h : OutIs n₀ T W) (o : Obj) : OutIs n₀ T (W.alloc o) := by
  obtain ⟨v, h1, h2⟩ := h
  exact ⟨v, h1.alloc _, h2.alloc _⟩

theorem heap_new_at {W : World} {o : Obj} {n : Nat} (h : n = W.heap.size) : (W.alloc o).heap[n]? = some o := by subst h; exact heap_alloc_new W o

theorem infoPt : (Tryz.prog.info? 34).map (fun i => (i.zero, i.size, i.bytes)) = some (some (.agg #[.int .i64 0, .int .i64 0, .int .u32 0]), 3, 24) := by kernel_rfl

theorem kp2_b {n₀ Bs : Nat} {w : World} (h : n₀ ≤ w.heap.size) (hB : Bs < w.heap.size) : ∀ (W : World) (l : Nat) (o o' : Obj), w.heap.size ≤ l → W.heap[l]? = some o → o.isCells = false → o.isWalk = false → Kp2 n₀ Bs W (W.putObj l o') := fun W l o o' hl ho hc hw =>
  ⟨belowK_b (w := w) h W l o o' hl ho hc hw, (grownBy_putObj' W l o').block Bs (by have := (Array.getElem?_eq_some_iff.1 ho).1; omega) (by intro e; cases e; omega)⟩

/-- the inner loop's world -/
def CJ (B Bx g cap : Nat) (O' : List Pt) (px py pi tx ty ti : Int) (a : Option Addr) (n c : Nat) (W wr : World) : Prop :=
  Boxed wr B 22 (.slice (some ⟨g, 0, none⟩) (O'.length + 1) cap) ∧ wr.ownsRow B 34 3 (.slice (some ⟨g, 0, none⟩) (O'.length + 1) cap) (O'.length + 1) ((O' ++ [(tx, ty, ti)]).flatMap ePt) ∧
  Boxed wr (B + 1) 22 (.slice a n c) ∧ wr.heap[Bx]? = some (.cells #[.int .i64 px, .int .i64 py, .int .u32 pi] 34 (0, 0)) ∧ Below B W wr ∧ KeepsOthers W wr

theorem CJ.drewAny {B Bx g cap : Nat} {O' : List Pt} {px py pi tx ty ti : Int} {a : Option Addr} {n c : Nat} {W wr : World} (h : CJ B Bx g cap O' px py pi tx ty ti a n c W wr) (q : Nat) : CJ B Bx g cap O' px py pi tx ty ti a n c W (wr.drewN q) :=
  ⟨h.1, h.2.1, h.2.2.1, h.2.2.2.1, h.2.2.2.2.1.trans (Below.drewAny _ _), ⟨h.2.2.2.2.2.1, h.2.2.2.2.2.2⟩⟩

end Go.Proofs.YtggfdlanobndjaaGreat

/- stair.Of: the skyline. -/
namespace Go.Proofs.YtggfdlanobndjaaGreat
open Go.RowKit Go.Maps

theorem ownsRow_mono {w : World} {base base' : Nat} {e : TypeId} {size : Nat} {v : Value} {n : Nat} {xs : List Value} (h : w.ownsRow base e size v n xs) (hb : base' ≤ base) : w.ownsRow base' e size v n xs := by
  obtain ⟨h1, h2⟩ := h
  refine ⟨h1, ?_⟩
  rcases h2 with h2 | ⟨g, cap, cur, hv, hg, r⟩
  · exact .inl h2
  · exact .inr ⟨g, cap, cur, hv, Nat.le_trans hb hg, r⟩

theorem unl_iff (l : List Pt) : unl l = true ↔ (ids l).Nodup := by simp [unl]
theorem unl_no (l : List Pt) : unl l = false ↔ ¬ (ids l).Nodup := by simp [unl]

end Go.Proofs.YtggfdlanobndjaaGreat

/- gridironref10.Right, gridironlaw15.unlike: is no name there twice? -/
namespace Go.Proofs.YtggfdlanobndjaaGreat
open Go.RowKit Go.Maps

theorem unl_no_of {l : List Pt} {i k : Nat} (hi : i < l.length) (hk : k < i) (h : l[i].2.2 = l[k].2.2) : unl l = false := by
  rw [unl_no]
  intro hn
  have := List.pairwise_iff_getElem.1 hn k i (by simp [ids]; omega) (by simpa [ids] using hi) hk
  simp [ids] at this
  exact this h.symm
theorem unl_yes_of {l : List Pt} (h : ∀ i (hi : i < l.length) k (hk : k < i), l[i].2.2 ≠ l[k].2.2) : unl l = true := by
  rw [unl_iff]
  refine List.pairwise_iff_getElem.2 fun k i hk hi hki => ?_
  simp only [ids, List.length_map] at hk hi
  simp only [ids, List.getElem_map]
  exact fun e => h i hi k hki e.symm

set_option maxRecDepth 100000 in
set_option maxHeartbeats 2000000 in
theorem ref_right (a : Option Addr) (l : List Pt) (n c : Nat) (w : World) (hn : l.length = n) (h : RdK ePt 3 w a l) (hl : n ≤ 1000000) :
    Calls Tryz.prog 17 #[.slice a n c] w fun e w' => e = .returned (.bool (unl l)) ∧ Below w.heap.size w w' := by
  subst hn
  have HR := Lib.hid h
  clear h
  generalize hr : unl l = r
  have HRR := Lib.hid hr
  clear hr
  go_enter Tryz.func17, Tryz.ntmps17
  go_wp2
  go_loopw [3] (fun iv wr => ∃ i : Nat, iv = .int .i64 i ∧ i ≤ l.length ∧ Below w.heap.size w wr ∧ Hid (∀ j (_ : j < l.length) k (_ : k < j), j < i → l[j].2.2 ≠ l[k].2.2)) (fun iv _ => l.length - (intOf iv).toNat)
  case atStart => exact ⟨0, rfl, Nat.zero_le _, Below.refl _ _, fun j _ k _ h => absurd h (Nat.not_lt_zero _)⟩
  case round =>
    obtain ⟨i, rfl, hi, hb, INV⟩ := hrel
    by_cases hlt : i < l.length
    · obtain ⟨wo, ewo⟩ : ∃ wo : World, wo = wr := ⟨_, rfl⟩
      subst ewo
      go_wp2
      go_loopw [4] (fun kv wr => ∃ k : Nat, kv = .int .i64 k ∧ k ≤ i ∧ Below w.heap.size w wr ∧ Hid (∀ j (_ : j < l.length), j < k → l[i].2.2 ≠ l[j].2.2)) (fun kv _ => i - (intOf kv).toNat)
      case atStart => exact ⟨0, rfl, Nat.zero_le _, hb, fun j _ h => absurd h (Nat.not_lt_zero _)⟩
      case round =>
        obtain ⟨k, rfl, hk, hb2, INV2⟩ := hrel
        by_cases hki : k < i
        · obtain ⟨b, off, ea, hbl, hcs⟩ := (HR.out.below hb2).get (by omega)
          have x2 := hcs i hlt 2 (by omega)
          have y2 := hcs k (by omega) 2 (by omega)
          simp only [ePt, List.getElem?_cons_zero, List.getElem?_cons_succ] at x2 y2
          have hkl : (k : Int) < (l.length : Int) := by omega
          by_cases he : l[i].2.2 = l[k].2.2
          · have hu : r = false := HRR.out ▸ unl_no_of hlt hki he
            have d1 : (l[i].2.2 == l[k].2.2) = true := by simp [he]
            subst hu
            have EA := Lib.hid ea
            clear hcs ea he INV INV2 HRR
            generalize l[i].2.2 = p at *
            generalize l[k].2.2 = q at *
            obtain rfl := EA.out
            clear EA
            go_wp2
            go_region
            all_goals
              go_wp2
              go_ret
              exact ⟨rfl, hb2.drew⟩
          · have d1 : (l[i].2.2 == l[k].2.2) = false := by simp [he]
            have I3 : Hid (∀ j (_ : j < l.length), j < k + 1 → l[i].2.2 ≠ l[j].2.2) := fun j hjl hj => by
              rcases Nat.lt_succ_iff_lt_or_eq.1 hj with h | rfl
              · exact INV2.out j hjl h
              · exact he
            have EA := Lib.hid ea
            clear hcs ea he INV2
            generalize l[i].2.2 = p at *
            generalize l[k].2.2 = q at *
            obtain rfl := EA.out
            clear EA
            go_wp2
            go_region
            all_goals
              go_wp2
              go_roundw
              case rel => exact ⟨k + 1, by go_num, by omega, hb2.drew, I3⟩
              case measure => simp [intOf]; omega
        · obtain rfl : k = i := by omega
          have I3 : Hid (∀ j (_ : j < l.length) m (_ : m < j), j < k + 1 → l[j].2.2 ≠ l[m].2.2) := fun j hj m hm hjk => by
            rcases Nat.lt_succ_iff_lt_or_eq.1 hjk with h | rfl
            · exact INV.out j hj m hm h
            · exact INV2.out m (by omega) hm
          go_wp2
          go_roundw
          case rel => exact ⟨k + 1, by go_num, by omega, hb2, I3⟩
          case measure => simp [intOf]; omega
    · have hu : r = true := HRR.out ▸ (unl_yes_of fun i hi k hk => INV.out i hi k hk (by omega))
      subst hu
      clear HRR
      go_wp2
      go_ret
      exact ⟨rfl, hb⟩

end Go.Proofs.YtggfdlanobndjaaGreat
