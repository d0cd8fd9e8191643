/- stair.scan: the skyline of points in order. -/
import Derived.Test.YtpebefcmloablaaBack
import Derived.Test.YtpebefcmloablaaIns
import Derived.Test.YtpebefcmloablaaRnd
import Derived.Maps.AppendAt
import Derived.Sort.QuietIn
import Derived.Deep.AppendLies
namespace Go.Proofs.Ytpebefcmloablaa
open Go.RowKit Go.Shelf

attribute [local go_sem] Oper.semAt_some

/-- what is gathered, in the order in which it came: the skyline so far, from its other end -/
def scO (O : List Pt) (p : Pt) : List Pt := (stp p O.reverse).reverse
def scR (pre : List (Nat × Pt)) : List Pt := pre.foldl (fun O x => scO O x.2) []
theorem scR_snoc (pre : List (Nat × Pt)) (x : Nat × Pt) : scR (pre ++ [x]) = scO (scR pre) x.2 := by simp [scR]
theorem scR_from : ∀ (pre : List (Nat × Pt)) (O : List Pt), pre.foldl (fun O x => scO O x.2) O = (pre.foldl (fun T x => stp x.2 T) O.reverse).reverse
  | [], O => by simp
  | x :: pre, O => by
    rw [List.foldl_cons, List.foldl_cons, scR_from pre]
    simp [scO]
theorem scR_eq (pre : List (Nat × Pt)) : scR pre = (scanF (pre.map (·.2)).reverse).reverse := by
  unfold scR scanF
  rw [scR_from, List.foldr_reverse, List.foldl_map]
  rfl
theorem scR_bk (zs : List Pt) : scR (bk zs zs.length) = (scanF zs).reverse := by
  rw [scR_eq, bk_rev zs _ (Nat.le_refl _), Nat.sub_self, List.drop_zero]

theorem stp_len (p : Pt) (T : List Pt) : (stp p T).length ≤ T.length + 1 := by
  cases T with
  | nil => simp [stp]
  | cons t T =>
    simp only [stp]
    split
    · simp
    · split
      · have := (List.dropWhile_sublist (fun q : Pt => decide (q.1 = p.1)) (l := t :: T)).length_le
        simp at this ⊢; omega
      · simp
theorem scO_len (O : List Pt) (p : Pt) : (scO O p).length ≤ O.length + 1 := by
  unfold scO; have := stp_len p O.reverse; simpa using this
theorem scR_len : ∀ (pre : List (Nat × Pt)) (O : List Pt), (pre.foldl (fun O x => scO O x.2) O).length ≤ O.length + pre.length
  | [], O => by simp
  | x :: pre, O => by
    rw [List.foldl_cons]
    have h1 := scR_len pre (scO O x.2)
    have h2 := scO_len O x.2
    simp; omega
theorem scR_le (pre : List (Nat × Pt)) : (scR pre).length ≤ pre.length := by have := scR_len pre []; simpa [scR] using this

theorem scO_nil (p : Pt) : scO [] p = [p] := rfl
theorem scO_skip (O : List Pt) (t p : Pt) (h : p.2.1 < t.2.1 ∨ p.2.1 = t.2.1 ∧ p.1 < t.1) : scO (O ++ [t]) p = O ++ [t] := by
  unfold scO
  simp only [List.reverse_append, List.reverse_cons, List.reverse_nil, List.nil_append, List.singleton_append, stp, if_pos h]
  simp
theorem scO_plain (O : List Pt) (t p : Pt) (h : ¬ (p.2.1 < t.2.1 ∨ p.2.1 = t.2.1 ∧ p.1 < t.1)) (h2 : ¬ (p.1 = t.1 ∧ t.2.1 < p.2.1)) : scO (O ++ [t]) p = (O ++ [t]) ++ [p] := by
  unfold scO
  simp only [List.reverse_append, List.reverse_cons, List.reverse_nil, List.nil_append, List.singleton_append, stp, if_neg h, if_neg h2]
  simp
theorem scO_drop (O : List Pt) (t p : Pt) (m : Nat) (h : ¬ (p.2.1 < t.2.1 ∨ p.2.1 = t.2.1 ∧ p.1 < t.1)) (h2 : p.1 = t.1 ∧ t.2.1 < p.2.1) (hm : m ≤ (O ++ [t]).length) (h3 : ∀ q ∈ (O ++ [t]).drop m, q.1 = p.1) (h4 : m = 0 ∨ ∃ hk : m - 1 < (O ++ [t]).length, (O ++ [t])[m - 1].1 ≠ p.1) :
    scO (O ++ [t]) p = (O ++ [t]).take m ++ [p] := by
  have e : (O ++ [t]).reverse = t :: O.reverse := by simp
  unfold scO
  rw [e]
  simp only [stp, if_neg h, if_pos h2]
  rw [← e]
  generalize O ++ [t] = L at *
  have e2 : L.reverse = (L.drop m).reverse ++ (L.take m).reverse := by rw [← List.reverse_append, List.take_append_drop]
  rw [e2, List.dropWhile_append_of_pos (by simpa using h3)]
  have e3 : (L.take m).reverse.dropWhile (fun q => decide (q.1 = p.1)) = (L.take m).reverse := by
    rcases h4 with rfl | ⟨hk, h4⟩
    · simp
    · rcases Nat.eq_zero_or_pos m with rfl | hm0
      · simp
      · have e4 : L.take m = L.take (m - 1) ++ [L[m - 1]] := by
          have := List.take_succ_eq_append_getElem hk
          rw [show m - 1 + 1 = m by omega] at this
          exact this
        rw [e4, List.reverse_append, List.reverse_singleton, List.singleton_append, List.dropWhile_cons_of_neg (by simpa using h4)]
  rw [e3]
  simp

theorem blk_own {β : Type} (B : Nat) (t : TypeId) (cs : β → Array Value) : Own (fun s W => W.heap[B]? = some (.cells (cs s) t (0, 0))) := fun s X Y row hs hg hrow =>
  (hg.block B (Array.getElem?_eq_some_iff.1 hs).1 (fun e' => by obtain ⟨o, ho, hc⟩ := hrow B e'.symm; rw [hs] at ho; cases ho; cases hc)).trans hs

/-- the variable in block n₀ holds a slice of the call's own with these points -/
def OutIs (n₀ : Nat) (T : List Pt) (W : World) : Prop := ∃ v, Boxed W n₀ 22 v ∧ W.ownsRow n₀ 33 3 v T.length (T.flatMap ePt)
theorem outIs_own (n₀ : Nat) : Own (fun (pre : List (Nat × Pt)) W => OutIs n₀ (scR pre) W) := fun s X Y row hs hg hrow => by
  obtain ⟨v, h1, h2⟩ := hs
  obtain ⟨v', a, b, _⟩ := holdsRow_own n₀ n₀ 22 33 3 (fun pre => (scR pre).length) (fun pre => (scR pre).flatMap ePt) (fun _ _ => True) s X Y row ⟨v, h1, h2, trivial⟩ hg hrow
  exact ⟨v', a, b⟩
theorem OutIs.alloc {n₀ : Nat} {T : List Pt} {W : World} (h : OutIs n₀ T W) (o : Obj) : OutIs n₀ T (W.alloc o) := by
  obtain ⟨v, h1, h2⟩ := h
  exact ⟨v, h1.alloc _, h2.alloc _⟩

theorem heap_new_at {W : World} {o : Obj} {n : Nat} (h : n = W.heap.size) : (W.alloc o).heap[n]? = some o := by subst h; exact heap_alloc_new W o

theorem infoPt : (Try.prog.info? 33).map (fun i => (i.zero, i.size, i.bytes)) = some (some (.agg #[.int .i64 0, .int .i64 0, .int .u32 0]), 3, 24) := by kernel_rfl

theorem kp2_b {n₀ Bs : Nat} {w : World} (h : n₀ ≤ w.heap.size) (hB : Bs < w.heap.size) : ∀ (W : World) (l : Nat) (o o' : Obj), w.heap.size ≤ l → W.heap[l]? = some o → o.isCells = false → o.isWalk = false → Kp2 n₀ Bs W (W.putObj l o') := fun W l o o' hl ho hc hw =>
  ⟨belowK_b (w := w) h W l o o' hl ho hc hw, (grownBy_putObj' W l o').block Bs (by have := (Array.getElem?_eq_some_iff.1 ho).1; omega) (by intro e; cases e; omega)⟩

/-- the inner loop's world -/
def CJ (B Bx g cap : Nat) (O' : List Pt) (px py pi tx ty ti : Int) (a : Option Addr) (n c : Nat) (W wr : World) : Prop :=
  Boxed wr B 22 (.slice (some ⟨g, 0, none⟩) (O'.length + 1) cap) ∧ wr.ownsRow B 33 3 (.slice (some ⟨g, 0, none⟩) (O'.length + 1) cap) (O'.length + 1) ((O' ++ [(tx, ty, ti)]).flatMap ePt) ∧
  Boxed wr (B + 1) 22 (.slice a n c) ∧ wr.heap[Bx]? = some (.cells #[.int .i64 px, .int .i64 py, .int .u32 pi] 33 (0, 0)) ∧ Below B W wr ∧ KeepsOthers W wr

theorem CJ.drewAny {B Bx g cap : Nat} {O' : List Pt} {px py pi tx ty ti : Int} {a : Option Addr} {n c : Nat} {W wr : World} (h : CJ B Bx g cap O' px py pi tx ty ti a n c W wr) (q : Nat) : CJ B Bx g cap O' px py pi tx ty ti a n c W (wr.drewN q) :=
  ⟨h.1, h.2.1, h.2.2.1, h.2.2.2.1, h.2.2.2.2.1.trans (Below.drewAny _ _), ⟨h.2.2.2.2.2.1, h.2.2.2.2.2.2⟩⟩

set_option maxRecDepth 100000 in
set_option maxHeartbeats 8000000 in
theorem scanIn (N : Nat) (hN : 3 ≤ N) (a : Option Addr) (l : List Pt) (n c : Nat) (w : World) (hn : l.length = n) (h : RdK ePt 3 w a l) (hl : n ≤ 1000000) :
    CallsIn Fence.wide N Try.prog 43 #[.slice a n c] w fun e w' => ∃ v m, e = .returned v ∧ w'.ownsRow w.heap.size 33 3 v m ((scanF l).flatMap ePt) ∧ m = (scanF l).length ∧ Below w.heap.size w w' := by
  have h1 : 1 ≤ N := by omega
  obtain ⟨i0, hi, hz0, hz1, hz2⟩ := info_parts infoPt
  have hz3 : (Value.agg #[.int .i64 0, .int .i64 0, .int .u32 0]).cells.size = 3 := rfl
  obtain ⟨zp, hzp⟩ : ∃ z : Value, z = .agg #[.int .i64 0, .int .i64 0, .int .u32 0] := ⟨_, rfl⟩
  rw [← hzp] at hz0 hz3
  clear hzp
  refine callsIn_of_wp_marks Try.func43 rfl trivial ?_ rfl
  simp only [Try.ntmps43, List.size_toArray, List.length_cons, List.length_nil, Nat.reduceAdd, Nat.reduceSub, Array.replicate_succ, Array.replicate_zero, List.push_toArray, List.append_toArray, List.nil_append, List.cons_append]
  gi_wp2_with (refine ⟨trivial, ?_⟩; gi_at_call 58; refine (back_in (N - 1) _ _ _ _).mono ?_; rintro e w' ⟨rfl, rfl⟩)
  have bO := (Boxed.new w 22 (.slice none 0 0)).alloc (.cells #[.slice a n c] 22)
  have bN := Boxed.new (w.alloc (.cells #[.slice none 0 0] 22)) 22 (.slice a n c)
  rw [World.size_alloc] at bN
  have hB0 : Below w.heap.size w ((w.alloc (.cells #[.slice none 0 0] 22)).alloc (.cells #[.slice a n c] 22)) := ((Below.refl _ w).alloc (Nat.le_refl _) _).alloc (by simp) _
  have hsz : ((w.alloc (.cells #[.slice none 0 0] 22)).alloc (.cells #[.slice a n c] 22)).heap.size = w.heap.size + 2 := by simp
  obtain ⟨W0, hW0⟩ : ∃ W0, (w.alloc (.cells #[.slice none 0 0] 22)).alloc (.cells #[.slice a n c] 22) = W0 := ⟨_, rfl⟩
  rw [hW0] at bO bN hB0 hsz ⊢
  clear hW0
  refine wpIn_rangeFunc_ownH (F := Fence.wide) rfl h1 (gf := 83) (lb := #[.pointer (some ⟨w.heap.size + 1, 0, none⟩)]) rfl trivial (enters_of Try.func83 (by kernel_rfl) rfl)
    (back_stops (N - 1) (by omega) (w.heap.size + 1) w.heap.size a n c l hn hl W0 (by omega) bN.cell (h.below hB0) (fun hne b off e => by
      subst e
      rcases h with rfl | ⟨b', off', e, hlt, _⟩
      · exact absurd rfl hne
      · cases e; exact hlt)) Kp2.trans (kp2_b (by omega) (by omega)) (Below.refl _ _) (fun _ => rfl)
    (fun pre W => (OutIs w.heap.size (scR pre) W ∧ Boxed W (w.heap.size + 1) 22 (.slice a n c)) ∧ Below w.heap.size w W)
    (fun _ _ _ => False)
    (OwnFrom.and (OwnFrom.and (Own.from (outIs_own w.heap.size) _) (Own.from (boxed_own _ _ _) _)) (ownFrom_below (Nat.le_refl _) (by omega)))
    (fun _ _ _ _ _ hs _ _ => hs)
    ⟨⟨⟨_, bO, World.ownsRow_nil _ _ _ _⟩, bN⟩, hB0⟩
    (fun x a' W => ∃ Bx, w.heap.size + 1 < Bx ∧ W.heap[Bx]? = some (.cells #[.int .i64 x.2.1, .int .i64 x.2.2.1, .int .u32 x.2.2.2] 33 (0, 0)) ∧ a' = { tmps := #[.slice a n c, undef, .slice none 0 0, .pointer (some ⟨w.heap.size, 0, none⟩), undef, .pointer (some ⟨Bx, 0, none⟩), undef, undef, .slice a n c, .func (.func 83) #[] #[.pointer (some ⟨w.heap.size + 1, 0, none⟩)], .int .i64 (x.1 : Int), vPt x.2.1 x.2.2.1 x.2.2.2, undef, undef, undef, undef, undef, undef, undef, undef, undef, undef, undef, undef, undef, undef, undef, undef, undef, undef, undef, undef, undef, undef, undef, undef, undef, undef, undef, undef, undef, undef, undef, undef, undef, undef, undef, undef, undef, undef, undef, undef, undef, undef, undef, undef, undef, undef, undef, undef, undef, undef, undef, undef, undef, undef, undef, undef, undef, undef, undef, undef, undef, undef, undef, undef, undef, undef, undef], defers := [] })
    (fun x a' _ X Y row hs hg hr => by obtain ⟨Bx, h1, h2, h3⟩ := hs; exact ⟨Bx, h1, blk_own Bx 33 (fun (_ : Unit) => #[.int .i64 x.2.1, .int .i64 x.2.2.1, .int .u32 x.2.2.2]) () X Y row h2 hg (fun r e => (hr r e).2), h3⟩)
    ?assign ?body ?done ?stop
  case assign =>
    rintro lr pre x W K ⟨⟨hO, hN1⟩, hB1⟩ hK
    gi_wp2
    exact hK _ _ ((KeepsOthers.alloc _ _).from _) ⟨(Below.refl _ W).alloc hB1.size _, Below.heap_alloc W _ _ hN1.lt⟩ ⟨⟨hO.alloc _, hN1.alloc _⟩, hB1.alloc hB1.size _⟩ ⟨W.heap.size, hN1.lt, World.alloc_heap_new W _, rfl⟩
  case body =>
    rintro lr pre ⟨xi, px, py, pi⟩ a' W hlr ⟨r, hr⟩ ⟨⟨⟨v, hv, hrow⟩, hN1⟩, hB⟩ ⟨Bx, hBx, bX, rfl⟩ hlt
    have hOl := scR_le pre
    have hI : ∀ W', OutIs w.heap.size (scO (scR pre) (px, py, pi)) W' → OutIs w.heap.size (scR (pre ++ [(xi, px, py, pi)])) W' := fun W' h => by
      rw [scR_snoc]; exact h
    have HI := Lib.hid hI
    clear hI
    generalize hOO : scR pre = O at *
    clear hOO
    have hc := hv.cell
    have hfz := hv.frozen
    have hp0 : W.cell? ⟨Bx, 0, none⟩ = some (.int .i64 px) := by simp [World.cell?, bX]
    have hp1 : W.cell? ⟨Bx, 1, none⟩ = some (.int .i64 py) := by simp [World.cell?, bX]
    have hp2 : W.cell? ⟨Bx, 2, none⟩ = some (.int .u32 pi) := by simp [World.cell?, bX]
    have hlW := hN1.lt
    have hlW0 : w.heap.size < W.heap.size := by omega
    have hneW : w.heap.size ≠ W.heap.size := by omega
    have hBxW := (Array.getElem?_eq_some_iff.1 bX).1
    rcases List.eq_nil_or_concat O with rfl | ⟨O', t, rfl⟩
    · simp only [List.length_nil, List.flatMap_nil] at hrow
      have hrow0 := hrow
      rw [scO_nil] at HI
      have : v = .slice none 0 0 ∨ ∃ g cap, v = .slice (some ⟨g, 0, none⟩) 0 cap := by
        rcases hrow0.2 with ⟨rfl, _⟩ | ⟨g, cap, cur, rfl, _⟩
        · exact .inl rfl
        · exact .inr ⟨g, cap, rfl⟩
      rcases this with rfl | ⟨g0, cap0, rfl⟩
      all_goals
        gi_wp2_with (gi_at_builtin; refine wpListIn_append_own _ rfl _ _ 22 rfl w.heap.size 33 i0 zp 3 24 Try.underlying22 hi hz0 hz1 hz2 hz3 (by decide) _ _ _ rfl (hrow.alloc _) ⟨W.heap.size, 0, none⟩ 1 1 [.int .i64 px, .int .i64 py, .int .u32 pi] rfl rfl (World.news_of_block (cs := #[.int .i64 px, .int .i64 py, .int .u32 pi]) (t := 33) (fr := (0, 0)) (heap_new_at (by simp))) (by simp [Value.oneCell']) (by unfold maxLen; omega) (by omega) (by simp; omega) ?_; intro v' w1 hown' hgrow _; obtain ⟨g', cap', rfl⟩ := ownsRow_succ hown'; obtain ⟨hv1, hv2, hr2, hk2, hb2⟩ := hv.appended (by decide) hrow hB.size (Nat.le_refl _) hown' hgrow; have hc1 := hv1.cell; have hf1 := hv1.frozen; have hN2 := (hN1.alloc _).kept hgrow (hN1.not_row (by decide) hrow); have hN3 := fun u => hN2.other (B' := w.heap.size) (by omega) u)
        simp only [Nat.zero_add] at hv2 hr2 hk2 hb2
        exact ⟨hk2.from _, ⟨hb2, (hN3 _).trans hN1.symm⟩, ⟨HI.out _ ⟨_, hv2, hr2⟩, hN3 _⟩, hB.trans hb2⟩
    · rw [List.concat_eq_append] at *
      have hg : ∃ g cap, v = .slice (some ⟨g, 0, none⟩) (O'.length + 1) cap ∧ g < W.heap.size ∧ w.heap.size ≤ g := by
        rcases hrow.2 with ⟨_, h0⟩ | ⟨g, cap, cur, rfl, hg, hh, _⟩
        · simp at h0
        · exact ⟨g, cap, by simp, (Array.getElem?_eq_some_iff.1 hh).1, hg⟩
      obtain ⟨g, cap, rfl, hgW, hgn⟩ := hg
      obtain ⟨tx, ty, ti⟩ := t
      have hOl2 : O'.length + 1 ≤ pre.length := by simpa using hOl
      have hrow2 := hrow
      rw [show (O' ++ [(tx, ty, ti)]).length = O'.length + 1 by simp] at hrow2
      have q0 := hrow2.cellAt (O'.length * 3) (by omega)
      have q1 := hrow2.cellAt (O'.length * 3 + 1) (by omega)
      have q2 := hrow2.cellAt (O'.length * 3 + 2) (by omega)
      have fg := fun j hj => flat_get ePt_len (O' ++ [(tx, ty, ti)]) O'.length (by simp) j hj
      rw [show (O' ++ [(tx, ty, ti)])[O'.length]'(by simp) = (tx, ty, ti) by simp] at fg
      rw [show O'.length * 3 = O'.length * 3 + 0 by omega, fg 0 (by omega)] at q0
      rw [fg 1 (by omega)] at q1
      rw [fg 2 (by omega)] at q2
      simp only [ePt, List.getElem?_cons_zero, List.getElem?_cons_succ, Nat.add_zero] at q0 q1 q2
      clear fg
      have hrow := hrow2
      clear hrow2
      by_cases hsk : py < ty ∨ py = ty ∧ px < tx
      · have e1 := scO_skip O' (tx, ty, ti) (px, py, pi) hsk
        rw [e1] at HI
        rcases hsk with hsk | ⟨hsk1, hsk2⟩
        · have d1 : decide (py < ty) = true := by simp [hsk]
          gi_wp2
          exact ⟨(KeepsOthers.alloc _ _).from _, ⟨(Below.refl _ W).alloc hB.size _, Below.heap_alloc W _ _ hN1.lt⟩, ⟨HI.out _ ⟨_, hv.alloc _, by simpa using hrow.alloc _⟩, hN1.alloc _⟩, hB.alloc hB.size _⟩
        · have d1 : decide (py < ty) = false := by simp; omega
          have d2 : (py == ty) = true := by simp [hsk1]
          have d3 : decide (px < tx) = true := by simp [hsk2]
          clear hsk1
          gi_wp2
          exact ⟨(KeepsOthers.alloc _ _).from _, ⟨(Below.refl _ W).alloc hB.size _, Below.heap_alloc W _ _ hN1.lt⟩, ⟨HI.out _ ⟨_, hv.alloc _, by simpa using hrow.alloc _⟩, hN1.alloc _⟩, hB.alloc hB.size _⟩
      · by_cases hc3 : px = tx ∧ ty < py
        · have d1 : decide (py < ty) = false := by simp; omega
          have d2 : (py == ty) = false := by simp; omega
          have d4 : (px == tx) = true := by simp [hc3.1]
          have d5 : decide (ty < py) = true := by simp [hc3.2]
          have HD := Lib.hid (fun m h1 h2 h3 => scO_drop O' (tx, ty, ti) (px, py, pi) m hsk hc3 h1 h2 h3)
          have hdr0 : ∀ q ∈ (O' ++ [(tx, ty, ti)]).drop (O'.length + 1), q.1 = px := by rw [List.drop_of_length_le (by simp)]; simp
          have HDR := Lib.hid hdr0
          have hCJ : CJ w.heap.size Bx g cap O' px py pi tx ty ti a n c W (W.alloc (.cells #[.int .i64 tx, .int .i64 ty, .int .u32 ti] 33)) :=
            ⟨by simpa using hv.alloc (.cells #[.int .i64 tx, .int .i64 ty, .int .u32 ti] 33), hrow.alloc _, hN1.alloc _, (Below.heap_alloc W _ _ hBxW).trans bX, (Below.refl _ W).alloc hB.size _, KeepsOthers.alloc _ _⟩
          clear hc3 hsk hdr0
          gi_wp2
          gi_loopw [7] (fun nv wr => ∃ m : Nat, nv = .int .i64 m ∧ m ≤ O'.length + 1 ∧ Hid (∀ q ∈ (O' ++ [(tx, ty, ti)]).drop m, q.1 = px) ∧
              CJ w.heap.size Bx g cap O' px py pi tx ty ti a n c W wr) (fun nv _ => (intOf nv).toNat)
          case atStart => exact ⟨O'.length + 1, by go_num, Nat.le_refl _, HDR, hCJ⟩
          case round =>
            obtain ⟨m, rfl, hm, hdr, hcj⟩ := hrel
            have hcr := hcj.1.cell
            have hx0 : wr.cell? ⟨Bx, 0, none⟩ = some (.int .i64 px) := by simp [World.cell?, hcj.2.2.2.1]
            have EX : (m = 0 ∨ ∃ hk : m - 1 < (O' ++ [(tx, ty, ti)]).length, (O' ++ [(tx, ty, ti)])[m - 1].1 ≠ px) → scO (O' ++ [(tx, ty, ti)]) (px, py, pi) = (O' ++ [(tx, ty, ti)]).take m ++ [(px, py, pi)] := fun h => HD.out m (by simp; omega) hdr.out h
            rcases Nat.eq_zero_or_pos m with hm0 | hm0
            · have e1 := EX (.inl hm0)
              rw [e1] at HI
              clear EX e1 hdr
              subst hm0
              gi_wp2
              refine region_quiet_rnd (by kernel_rfl) (by kernel_rfl) (by kernel_rfl) ?_
              repeat (gi_big_quiet_step (fail))
              refine wpQuietIn_nil ?_
              intro _ hw'
              obtain ⟨nq, hw''⟩ := hw'
              subst hw''
              clear hcr hx0
              have hcj2 : CJ w.heap.size Bx g cap O' px py pi tx ty ti a n c W (wr.drewN nq) := hcj.drewAny nq
              clear hcj
              generalize wr.drewN nq = wr2 at hcj2 ⊢
              obtain ⟨hvr, hrr, hNr, hXr, hBr, hKr⟩ := hcj2
              have hcap : O'.length + 1 ≤ cap := by
                obtain ⟨_, _, eqv, _, _, hcap, _⟩ := ownRow_at hrr (by omega)
                injection eqv with _ _ eqc
                omega
              have hcr := hvr.cell
              have hfr := hvr.frozen
              have hne : w.heap.size ≠ Bx := by omega
              have hv4 := hvr.set (.slice (some ⟨g, 0, none⟩) 0 cap)
              have hrow4 : (wr2.setCell ⟨w.heap.size, 0, none⟩ (.slice (some ⟨g, 0, none⟩) 0 cap)).ownsRow w.heap.size 33 3 (.slice (some ⟨g, 0, none⟩) 0 cap) 0 (((O' ++ [(tx, ty, ti)]).take 0).flatMap ePt) := by
                refine owns_sameH (by rw [← flatMap_take ePt_len]; exact ownsRow_take hrr (by omega)) (fun gb e => heap_setNe (fun e2 => hvr.not_row (by decide) hrr ?_))
                simp only [Value.ownBlock] at e ⊢
                rw [e, ← e2]
              have hy0 : (wr2.setCell ⟨w.heap.size, 0, none⟩ (.slice (some ⟨g, 0, none⟩) 0 cap)).cell? ⟨Bx, 0, none⟩ = some (.int .i64 px) := by rw [World.cell?, heap_setNe hne]; simp [hXr]
              have hy1 : (wr2.setCell ⟨w.heap.size, 0, none⟩ (.slice (some ⟨g, 0, none⟩) 0 cap)).cell? ⟨Bx, 1, none⟩ = some (.int .i64 py) := by rw [World.cell?, heap_setNe hne]; simp [hXr]
              have hy2 : (wr2.setCell ⟨w.heap.size, 0, none⟩ (.slice (some ⟨g, 0, none⟩) 0 cap)).cell? ⟨Bx, 2, none⟩ = some (.int .u32 pi) := by rw [World.cell?, heap_setNe hne]; simp [hXr]
              have hN4 : ∀ u, Boxed (wr2.setCell ⟨w.heap.size, 0, none⟩ u) (w.heap.size + 1) 22 (.slice a n c) := fun u => hNr.other (B' := w.heap.size) (by omega) u
              have hlW4 := hNr.lt
              have hsz4 : w.heap.size ≤ (wr2.setCell ⟨w.heap.size, 0, none⟩ (.slice (some ⟨g, 0, none⟩) 0 cap)).heap.size := by have := hBr.size; have := hvr.lt; simp; omega
              gi_wp2_with (gi_at_builtin; refine wpListIn_append_own _ rfl _ _ 22 rfl w.heap.size 33 i0 zp 3 24 Try.underlying22 hi hz0 hz1 hz2 hz3 (by decide) _ _ _ rfl (hrow4.alloc _) ⟨wr2.heap.size, 0, none⟩ 1 1 [.int .i64 px, .int .i64 py, .int .u32 pi] rfl rfl (World.news_of_block (cs := #[.int .i64 px, .int .i64 py, .int .u32 pi]) (t := 33) (fr := (0, 0)) (heap_new_at (by simp))) (by simp [Value.oneCell']) (by unfold maxLen; omega) (by omega) (by simp; omega) ?_; intro v' w1 hown' hgrow _; obtain ⟨g', cap', rfl⟩ := ownsRow_succ hown'; obtain ⟨hv1, hv2, hr2, hk2, hb2⟩ := hv4.appended (by decide) hrow4 hsz4 (Nat.le_refl _) hown' hgrow; have hc1 := hv1.cell; have hf1 := hv1.frozen; have hN2 := ((hN4 _).alloc _).kept hgrow ((hN4 _).not_row (by decide) hrow4); have hN3 := fun u => hN2.other (B' := w.heap.size) (by omega) u)
              have hb3 := (hBr.setCell (p := ⟨w.heap.size, 0, none⟩) (Nat.le_refl _) (.slice (some ⟨g, 0, none⟩) 0 cap)).trans hb2
              exact ⟨((hKr.trans (KeepsOthers.setCell _ _ _)).trans hk2).from _, ⟨hb3, (hN3 _).trans hN1.symm⟩, ⟨HI.out _ ⟨_, hv2, by rw [show ((O' ++ [(tx, ty, ti)]).take 0 ++ [(px, py, pi)]).length = 0 + 1 by simp, List.flatMap_append, List.flatMap_singleton]; exact hr2⟩, hN3 _⟩, hB.trans hb3⟩
            · obtain ⟨k, rfl⟩ : ∃ k, m = k + 1 := ⟨m - 1, by omega⟩
              have c0 := hcj.2.1.cellAt (k * 3) (by omega)
              have fg := flat_get ePt_len (O' ++ [(tx, ty, ti)]) k (by simp; omega) 0 (by omega)
              rw [show k * 3 = k * 3 + 0 by omega, fg] at c0
              simp only [ePt, List.getElem?_cons_zero, Nat.add_zero] at c0
              clear fg
              have hkl : k < (O' ++ [(tx, ty, ti)]).length := by simp; omega
              simp only [Nat.add_sub_cancel] at EX
              have EX2 := Lib.hid EX
              have hdk := drop_pred (O' ++ [(tx, ty, ti)]) (k + 1) (by omega) (by omega)
              simp only [Nat.add_sub_cancel] at hdk
              clear EX
              obtain ⟨qx, hqx⟩ : ∃ qx, qx = (O' ++ [(tx, ty, ti)])[k].1 := ⟨_, rfl⟩
              rw [← hqx] at c0
              have g1 : (decide ((0 : Int) < ((k + 1 : Nat) : Int))) = true := by simp
              by_cases hq : qx = px
              · have g2 : (qx == px) = true := by simp [hq]
                have hdr2 : ∀ q ∈ (O' ++ [(tx, ty, ti)]).drop k, q.1 = px := by
                  rw [hdk]
                  intro q h
                  rcases List.mem_cons.1 h with rfl | h
                  · rw [← hqx]; exact hq
                  · exact hdr.out q h
                have HDR2 := Lib.hid hdr2
                clear hdr2 hdk hqx hq hdr
                gi_wp2
                refine region_quiet_rnd (by kernel_rfl) (by kernel_rfl) (by kernel_rfl) ?_
                repeat (gi_big_quiet_step (fail))
                refine wpQuietIn_nil ?_
                intro _ hw'
                obtain ⟨nq, hw''⟩ := hw'
                subst hw''
                gi_wp2
                go_roundw
                case rel => exact ⟨k, by go_num, by omega, HDR2, hcj.drewAny nq⟩
                case measure => simp [intOf]
              · have g2 : (qx == px) = false := by simp [hq]
                have e1 := EX2.out (.inr ⟨hkl, by rw [← hqx]; exact hq⟩)
                rw [e1] at HI
                clear hdk hqx hq EX2 e1 hdr
                gi_wp2
                refine region_quiet_rnd (by kernel_rfl) (by kernel_rfl) (by kernel_rfl) ?_
                repeat (gi_big_quiet_step (fail))
                refine wpQuietIn_nil ?_
                intro _ hw'
                obtain ⟨nq, hw''⟩ := hw'
                subst hw''
                clear c0
                clear hcr hx0
                have hcj2 : CJ w.heap.size Bx g cap O' px py pi tx ty ti a n c W (wr.drewN nq) := hcj.drewAny nq
                clear hcj
                generalize wr.drewN nq = wr2 at hcj2 ⊢
                obtain ⟨hvr, hrr, hNr, hXr, hBr, hKr⟩ := hcj2
                have hcap : O'.length + 1 ≤ cap := by
                  obtain ⟨_, _, eqv, _, _, hcap, _⟩ := ownRow_at hrr (by omega)
                  injection eqv with _ _ eqc
                  omega
                have hcr := hvr.cell
                have hfr := hvr.frozen
                have hne : w.heap.size ≠ Bx := by omega
                have hv4 := hvr.set (.slice (some ⟨g, 0, none⟩) (k + 1) cap)
                have hrow4 : (wr2.setCell ⟨w.heap.size, 0, none⟩ (.slice (some ⟨g, 0, none⟩) (k + 1) cap)).ownsRow w.heap.size 33 3 (.slice (some ⟨g, 0, none⟩) (k + 1) cap) (k + 1) (((O' ++ [(tx, ty, ti)]).take (k + 1)).flatMap ePt) := by
                  refine owns_sameH (by rw [← flatMap_take ePt_len]; exact ownsRow_take hrr (by omega)) (fun gb e => heap_setNe (fun e2 => hvr.not_row (by decide) hrr ?_))
                  simp only [Value.ownBlock] at e ⊢
                  rw [e, ← e2]
                have hy0 : (wr2.setCell ⟨w.heap.size, 0, none⟩ (.slice (some ⟨g, 0, none⟩) (k + 1) cap)).cell? ⟨Bx, 0, none⟩ = some (.int .i64 px) := by rw [World.cell?, heap_setNe hne]; simp [hXr]
                have hy1 : (wr2.setCell ⟨w.heap.size, 0, none⟩ (.slice (some ⟨g, 0, none⟩) (k + 1) cap)).cell? ⟨Bx, 1, none⟩ = some (.int .i64 py) := by rw [World.cell?, heap_setNe hne]; simp [hXr]
                have hy2 : (wr2.setCell ⟨w.heap.size, 0, none⟩ (.slice (some ⟨g, 0, none⟩) (k + 1) cap)).cell? ⟨Bx, 2, none⟩ = some (.int .u32 pi) := by rw [World.cell?, heap_setNe hne]; simp [hXr]
                have hN4 : ∀ u, Boxed (wr2.setCell ⟨w.heap.size, 0, none⟩ u) (w.heap.size + 1) 22 (.slice a n c) := fun u => hNr.other (B' := w.heap.size) (by omega) u
                have hlW4 := hNr.lt
                have hsz4 : w.heap.size ≤ (wr2.setCell ⟨w.heap.size, 0, none⟩ (.slice (some ⟨g, 0, none⟩) (k + 1) cap)).heap.size := by have := hBr.size; have := hvr.lt; simp; omega
                gi_wp2_with (gi_at_builtin; refine wpListIn_append_own _ rfl _ _ 22 rfl w.heap.size 33 i0 zp 3 24 Try.underlying22 hi hz0 hz1 hz2 hz3 (by decide) _ _ _ rfl (hrow4.alloc _) ⟨wr2.heap.size, 0, none⟩ 1 1 [.int .i64 px, .int .i64 py, .int .u32 pi] rfl rfl (World.news_of_block (cs := #[.int .i64 px, .int .i64 py, .int .u32 pi]) (t := 33) (fr := (0, 0)) (heap_new_at (by simp))) (by simp [Value.oneCell']) (by unfold maxLen; omega) (by omega) (by simp; omega) ?_; intro v' w1 hown' hgrow _; obtain ⟨g', cap', rfl⟩ := ownsRow_succ hown'; obtain ⟨hv1, hv2, hr2, hk2, hb2⟩ := hv4.appended (by decide) hrow4 hsz4 (Nat.le_refl _) hown' hgrow; have hc1 := hv1.cell; have hf1 := hv1.frozen; have hN2 := ((hN4 _).alloc _).kept hgrow ((hN4 _).not_row (by decide) hrow4); have hN3 := fun u => hN2.other (B' := w.heap.size) (by omega) u)
                have hb3 := (hBr.setCell (p := ⟨w.heap.size, 0, none⟩) (Nat.le_refl _) (.slice (some ⟨g, 0, none⟩) (k + 1) cap)).trans hb2
                exact ⟨((hKr.trans (KeepsOthers.setCell _ _ _)).trans hk2).from _, ⟨hb3, (hN3 _).trans hN1.symm⟩, ⟨HI.out _ ⟨_, hv2, by rw [show ((O' ++ [(tx, ty, ti)]).take (k + 1) ++ [(px, py, pi)]).length = (k + 1) + 1 by simp; omega, List.flatMap_append, List.flatMap_singleton]; exact hr2⟩, hN3 _⟩, hB.trans hb3⟩
        · have e1 := scO_plain O' (tx, ty, ti) (px, py, pi) hsk hc3
          rw [e1] at HI
          have d1 : decide (py < ty) = false := by simp; omega
          by_cases h5 : py = ty
          · have d2 : (py == ty) = true := by simp [h5]
            have d3 : decide (px < tx) = false := by simp; omega
            have d5 : decide (ty < py) = false := by simp; omega
            by_cases h6 : px = tx
            · have d4 : (px == tx) = true := by simp [h6]
              clear h5 h6 hsk hc3
              gi_wp2_with (gi_at_builtin; refine wpListIn_append_own _ rfl _ _ 22 rfl w.heap.size 33 i0 zp 3 24 Try.underlying22 hi hz0 hz1 hz2 hz3 (by decide) _ _ _ rfl ((hrow.alloc _).alloc _) ⟨W.heap.size + 1, 0, none⟩ 1 1 [.int .i64 px, .int .i64 py, .int .u32 pi] rfl rfl (World.news_of_block (cs := #[.int .i64 px, .int .i64 py, .int .u32 pi]) (t := 33) (fr := (0, 0)) (heap_new_at (by simp))) (by simp [Value.oneCell']) (by unfold maxLen; omega) (by omega) (by simp; omega) ?_; intro v' w1 hown' hgrow _; obtain ⟨g', cap', rfl⟩ := ownsRow_succ hown'; obtain ⟨hv1, hv2, hr2, hk2, hb2⟩ := (hv.alloc (.cells #[.int .i64 tx, .int .i64 ty, .int .u32 ti] 33)).appended (by decide) (hrow.alloc _) (hB.alloc hB.size _).size (Nat.le_refl _) hown' hgrow; have hc1 := hv1.cell; have hf1 := hv1.frozen; have hN2 := ((hN1.alloc (.cells #[.int .i64 tx, .int .i64 ty, .int .u32 ti] 33)).alloc _).kept hgrow ((hN1.alloc (.cells #[.int .i64 tx, .int .i64 ty, .int .u32 ti] 33)).not_row (by decide) (hrow.alloc _)); have hN3 := fun u => hN2.other (B' := w.heap.size) (by omega) u)
              have hb3 := ((Below.refl w.heap.size W).alloc hB.size _).trans hb2
              exact ⟨((KeepsOthers.alloc _ _).trans hk2).from _, ⟨hb3, (hN3 _).trans hN1.symm⟩, ⟨HI.out _ ⟨_, hv2, by rw [show ((O' ++ [(tx, ty, ti)]) ++ [(px, py, pi)]).length = O'.length + 1 + 1 by simp, List.flatMap_append, List.flatMap_singleton]; exact hr2⟩, hN3 _⟩, hB.trans hb3⟩
            · have d4 : (px == tx) = false := by simp [h6]
              clear h5 h6 hsk hc3
              gi_wp2_with (gi_at_builtin; refine wpListIn_append_own _ rfl _ _ 22 rfl w.heap.size 33 i0 zp 3 24 Try.underlying22 hi hz0 hz1 hz2 hz3 (by decide) _ _ _ rfl ((hrow.alloc _).alloc _) ⟨W.heap.size + 1, 0, none⟩ 1 1 [.int .i64 px, .int .i64 py, .int .u32 pi] rfl rfl (World.news_of_block (cs := #[.int .i64 px, .int .i64 py, .int .u32 pi]) (t := 33) (fr := (0, 0)) (heap_new_at (by simp))) (by simp [Value.oneCell']) (by unfold maxLen; omega) (by omega) (by simp; omega) ?_; intro v' w1 hown' hgrow _; obtain ⟨g', cap', rfl⟩ := ownsRow_succ hown'; obtain ⟨hv1, hv2, hr2, hk2, hb2⟩ := (hv.alloc (.cells #[.int .i64 tx, .int .i64 ty, .int .u32 ti] 33)).appended (by decide) (hrow.alloc _) (hB.alloc hB.size _).size (Nat.le_refl _) hown' hgrow; have hc1 := hv1.cell; have hf1 := hv1.frozen; have hN2 := ((hN1.alloc (.cells #[.int .i64 tx, .int .i64 ty, .int .u32 ti] 33)).alloc _).kept hgrow ((hN1.alloc (.cells #[.int .i64 tx, .int .i64 ty, .int .u32 ti] 33)).not_row (by decide) (hrow.alloc _)); have hN3 := fun u => hN2.other (B' := w.heap.size) (by omega) u)
              have hb3 := ((Below.refl w.heap.size W).alloc hB.size _).trans hb2
              exact ⟨((KeepsOthers.alloc _ _).trans hk2).from _, ⟨hb3, (hN3 _).trans hN1.symm⟩, ⟨HI.out _ ⟨_, hv2, by rw [show ((O' ++ [(tx, ty, ti)]) ++ [(px, py, pi)]).length = O'.length + 1 + 1 by simp, List.flatMap_append, List.flatMap_singleton]; exact hr2⟩, hN3 _⟩, hB.trans hb3⟩
          · have d2 : (py == ty) = false := by simp [h5]
            have d4 : (px == tx) = false := by simp; omega
            clear h5 hsk hc3
            gi_wp2_with (gi_at_builtin; refine wpListIn_append_own _ rfl _ _ 22 rfl w.heap.size 33 i0 zp 3 24 Try.underlying22 hi hz0 hz1 hz2 hz3 (by decide) _ _ _ rfl ((hrow.alloc _).alloc _) ⟨W.heap.size + 1, 0, none⟩ 1 1 [.int .i64 px, .int .i64 py, .int .u32 pi] rfl rfl (World.news_of_block (cs := #[.int .i64 px, .int .i64 py, .int .u32 pi]) (t := 33) (fr := (0, 0)) (heap_new_at (by simp))) (by simp [Value.oneCell']) (by unfold maxLen; omega) (by omega) (by simp; omega) ?_; intro v' w1 hown' hgrow _; obtain ⟨g', cap', rfl⟩ := ownsRow_succ hown'; obtain ⟨hv1, hv2, hr2, hk2, hb2⟩ := (hv.alloc (.cells #[.int .i64 tx, .int .i64 ty, .int .u32 ti] 33)).appended (by decide) (hrow.alloc _) (hB.alloc hB.size _).size (Nat.le_refl _) hown' hgrow; have hc1 := hv1.cell; have hf1 := hv1.frozen; have hN2 := ((hN1.alloc (.cells #[.int .i64 tx, .int .i64 ty, .int .u32 ti] 33)).alloc _).kept hgrow ((hN1.alloc (.cells #[.int .i64 tx, .int .i64 ty, .int .u32 ti] 33)).not_row (by decide) (hrow.alloc _)); have hN3 := fun u => hN2.other (B' := w.heap.size) (by omega) u)
            have hb3 := ((Below.refl w.heap.size W).alloc hB.size _).trans hb2
            exact ⟨((KeepsOthers.alloc _ _).trans hk2).from _, ⟨hb3, (hN3 _).trans hN1.symm⟩, ⟨HI.out _ ⟨_, hv2, by rw [show ((O' ++ [(tx, ty, ti)]) ++ [(px, py, pi)]).length = O'.length + 1 + 1 by simp, List.flatMap_append, List.flatMap_singleton]; exact hr2⟩, hN3 _⟩, hB.trans hb3⟩
  case done =>
    rintro D xs W hD rfl ⟨⟨⟨v, hv, hrow⟩, hN1⟩, hB⟩ hK
    subst hn
    have hle := scR_le (bk l l.length)
    rw [bk_len] at hle
    rw [scR_bk] at hrow hle
    simp only [List.length_reverse] at hrow hle
    have hc := hv.cell
    have hnr := hv.not_row (by decide) hrow
    have hgb : ∀ j, v.ownBlock = some j → w.heap.size ≤ j := fun j e => by
      rcases hrow.2 with ⟨rfl, _⟩ | ⟨g, cap, cur, rfl, hb, _⟩
      · cases e
      · cases e; exact hb
    have hDn : some D ≠ v.ownBlock := fun e => by
      rcases hrow.2 with ⟨rfl, _⟩ | ⟨g, cap, cur, rfl, _, hb, _⟩
      · cases e
      · cases e; rw [hb] at hK; cases hK
    have hDl := (Array.getElem?_eq_some_iff.1 hK).1
    gi_wp2_with (refine ⟨trivial, ?_⟩; gi_at_call 59; refine (callsIn_wide.2 (revPts (by simp) (by omega) hrow)).mono ?_; rintro e w' ⟨rfl, hrow', hg⟩; have hv' := hv.kept hg hnr; have hc' := hv'.cell; have hK' := (hg.block D hDl hDn).trans hK; have hB' := hB.grown hg hB.size hgb)
    rw [List.reverse_reverse] at hrow'
    refine ⟨by simp, .inl ⟨_, _, rfl, run_takeDeferred hK', ?_⟩⟩
    exact ⟨_, results_tmp rfl _ _ _, _, _, rfl, ownsRow_putObj hrow' _ hK' rfl, rfl, hB'.trans (belowK_b (w := w) (Nat.le_refl _) _ _ _ _ (by omega) hK' rfl rfl)⟩
  case stop =>
    rintro D c pre W _ _ h _
    exact h.elim

/-- stair.scan: the skyline of points in order, in memory of its own -/
theorem scan_calls {a : Option Addr} {l : List Pt} {n c : Nat} {w : World} (hn : l.length = n) (h : RdK ePt 3 w a l) (hl : n ≤ 1000000) :
    Calls Try.prog 43 #[.slice a n c] w fun e w' => ∃ v, e = .returned v ∧ w'.ownsRow w.heap.size 33 3 v (scanF l).length ((scanF l).flatMap ePt) ∧ Below w.heap.size w w' :=
  (callsIn_wide.1 (scanIn 3 (by omega) a l n c w hn h hl)).mono fun e w' ⟨v, m, he, ho, hm, hb⟩ => ⟨v, he, hm ▸ ho, hb⟩

end Go.Proofs.Ytpebefcmloablaa
