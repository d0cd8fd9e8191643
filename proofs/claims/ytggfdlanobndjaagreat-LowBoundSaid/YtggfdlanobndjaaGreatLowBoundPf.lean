/- The law LowBound answers true at every input, and leaves its arguments as they were. No conditions. -/
import Derived.Test.YtggfdlanobndjaaGreatRows
import Derived.Test.YtggfdlanobndjaaGreatL14b
import Derived.Test.YtggfdlanobndjaaGreatLiftS
import Derived.WalkKit
import Derived.ProofKit
import Derived.OpenShut
import Derived.ShutString
import Derived.ChangeOld
import Derived.Below
namespace Go.Proofs.YtggfdlanobndjaaGreat.lowBound
open Go.ChangeShapes Go.WideShapes Go.ChangeAt Go.RowKit
open Go.ChangeMaps (open_string shut_string)
set_option linter.unusedVariables false

theorem own : ownKnob Tryz.prog.godebug = none := by kernel_rfl
theorem laidOut : laidOutB Tryz.prog = true := by kernel_rfl

theorem open_ints_list {H : Type} {enc : TypeId × Value → H} {P : Program} {w : World} {base : Nat} {held : Bool} {fuel : Nat} {t e : TypeId} {k : IntKind} {a : Option Addr} {len cap : Nat} {x : DataW H × List MemPlace} (ht : P.underlying t = some (.slice e)) (he : P.underlying e = some (.int k)) (hc : P.cellsOf e = 1)
    (h : DataW.trod enc P w base (fun _ => true) held fuel t [.slice a len cap] = some x) : ∃ l : List Int, l.length = len ∧ Rd (.int k) w a l ∧ len ≤ cap ∧ cap ≤ maxLen ∧ ∀ x ∈ l, (Lit.int k x).wf = true := by
  rcases open_ints ht he hc h with ⟨hcs, _⟩ | ⟨y, l, c, zs, hcs, _, hl, hm, hz, _, hcell, hwz⟩
  · simp at hcs
    obtain ⟨rfl, rfl, rfl⟩ := hcs
    exact ⟨[], rfl, .nil, Nat.le_refl _, Nat.zero_le _, by simp⟩
  · simp at hcs
    obtain ⟨rfl, rfl, rfl⟩ := hcs
    obtain ⟨h1, h2, h3⟩ := Rd.of_row (k := k) (w := w) (a := some y) (zs := zs) (.inr ⟨_, rfl, hl, hm, by simpa using hz, hcell, hwz⟩)
    exact ⟨_, h1, h2, hl, hm, h3⟩

theorem walk (a0 : Option Addr) (len0 cap0 : Nat) (l0 : List (Int × Int × Int)) (a1 : Option Addr) (len1 cap1 : Nat) (l1 : List (Sd)) (a2 : Option Addr) (len2 cap2 : Nat) (l2 : List Int) (w : World) (e0 : l0.length = len0) (r0 : RdK ePt 3 w a0 l0) (m0 : len0 ≤ cap0 ∧ cap0 ≤ maxLen) (f0 : ∀ x ∈ l0, (Lit.int .i64 x.1).wf = true ∧ (Lit.int .i64 x.2.1).wf = true ∧ (Lit.int .u32 x.2.2).wf = true) (e1 : l1.length = len1) (r1 : RdK eSd 3 w a1 l1) (m1 : len1 ≤ cap1 ∧ cap1 ≤ maxLen) (f1 : ∀ x ∈ l1, (Lit.int .i64 x.1).wf = true ∧ (Lit.int .i64 x.2.1).wf = true ∧ (Lit.int .i64 x.2.2).wf = true) (e2 : l2.length = len2) (r2 : Rd (.int .u8) w a2 l2) (m2 : len2 ≤ cap2 ∧ cap2 ≤ maxLen) (f2 : ∀ x ∈ l2, (Lit.int .u8 x).wf = true) :
    Calls Tryz.prog 14 #[.slice a0 len0 cap0, .slice a1 len1 cap1, .slice a2 len2 cap2] w fun e w' => e = .returned (.bool true) ∧ Below w.heap.size w w' := by
  exact wLowBound a0 l0 len0 cap0 a1 l1 len1 cap1 a2 l2 len2 cap2 w e0 r0 f0 e1 r1 m1 e2 r2 m2 f2

set_option maxRecDepth 100000 in
theorem lifted (os : Os) (started : os.Started) (H : Type) (enc : TypeId × Value → H) :
    ReturnsInHanded {} Tryz.checked os 14 .any (Rows.lowBoundSpec.pre6 enc Tryz.prog Tryz.f14 Rows.lowBoundRow.domain false) (Rows.lowBoundSpec.post enc Tryz.prog Tryz.f14 false true false false) := by
  refine returnsInHanded_of_change (C := Tryz.checked) own started (by kernel_rfl) Tryz.func14
    (ChangeSpec.witness6 (enc := enc) (C := Tryz.checked) false ⟨#[], #[.slice none 0 0, .slice none 0 0, .slice none 0 0], []⟩ 8 (by kernel_rfl) (by kernel_rfl) (by kernel_rfl) (by kernel_rfl)) ?_
  intro W base args ds gs before hval0 hW hcnd _
  have hval : ∀ (j : Nat) t v, Tryz.f14.params[j]? = some t → args[j]? = some v → Value.okWide Tryz.prog W .any base t v := hval0
  have hW' := hW
  obtain ⟨p, q, hA0, hV, rfl, hfz, hnd⟩ := hW
  have hA : DataW.TrodAll enc Tryz.prog W 0 (fun _ => true) true Tryz.f14.params.toList args.toList ds p := hA0
  rw [Tryz.params14] at hA hval
  obtain ⟨v0, vs0, d0, ds0, p0, q0, hargs, rfl, rfl, h0, r100⟩ := trodAll_cons hA
  obtain ⟨v1, vs1, d1, ds1, p1, q1, rfl, rfl, rfl, h1, r101⟩ := trodAll_cons r100
  obtain ⟨v2, vs2, d2, ds2, p2, q2, rfl, rfl, rfl, h2, r102⟩ := trodAll_cons r101
  obtain ⟨rfl, rfl, rfl⟩ := trodAll_nil r102
  obtain rfl : args = #[v0, v1, v2] := by cases args; simp_all
  obtain ⟨rfl, rfl⟩ := trodVars_none hV
  obtain ⟨a0, len0, cap0, rfl⟩ := okWide_slice Tryz.underlying22 (hval 0 22 v0 rfl rfl)
  have k0 := h0
  have lt0 : ∀ x ∈ p0, x.block < W.heap.size := by obtain ⟨m, hm⟩ := k0; exact DataW.trod_lt m _ _ _ hm
  obtain ⟨fuel0, hf⟩ := h0
  simp only [Value.cells] at hf
  obtain ⟨l0, e0, r0, m0, n0, f0⟩ := open_points hf
  clear hf
  obtain ⟨a1, len1, cap1, rfl⟩ := okWide_slice Tryz.underlying71 (hval 1 71 v1 rfl rfl)
  have k1 := h1
  have lt1 : ∀ x ∈ p1, x.block < W.heap.size := by obtain ⟨m, hm⟩ := k1; exact DataW.trod_lt m _ _ _ hm
  obtain ⟨fuel1, hf⟩ := h1
  simp only [Value.cells] at hf
  obtain ⟨l1, e1, r1, m1, n1, f1⟩ := open_parts hf
  clear hf
  obtain ⟨a2, len2, cap2, rfl⟩ := okWide_slice Tryz.underlying53 (hval 2 53 v2 rfl rfl)
  have k2 := h2
  have lt2 : ∀ x ∈ p2, x.block < W.heap.size := by obtain ⟨m, hm⟩ := k2; exact DataW.trod_lt m _ _ _ hm
  obtain ⟨fuel2, hf⟩ := h2
  simp only [Value.cells] at hf
  obtain ⟨l2, e2, r2, m2, n2, f2⟩ := open_ints_list Tryz.underlying53 Tryz.underlying5 (by kernel_rfl) hf
  clear hf
  clear hA0 hval0
  refine (walk a0 len0 cap0 l0 a1 len1 cap1 l1 a2 len2 cap2 l2 W e0 r0 ⟨m0, n0⟩ f0 e1 r1 ⟨m1, n1⟩ f1 e2 r2 ⟨m2, n2⟩ f2).mono fun e W' ⟨he, bel⟩ => ?_
  subst he
  exact ⟨_, rfl, _, _, _, [], _, [], hW', trodAll_mk1 (shut_bool Tryz.underlying4 _), (trodAll_cons_mk (Below.trod laidOut (by kernel_rfl) (of_decide_eq_true (by kernel_rfl)) k0 bel lt0) (trodAll_cons_mk (Below.trod laidOut (by kernel_rfl) (of_decide_eq_true (by kernel_rfl)) k1 bel lt1) (trodAll_cons_mk (Below.trod laidOut (by kernel_rfl) (of_decide_eq_true (by kernel_rfl)) k2 bel lt2) trodAll_mk0))), rfl, bel.frame _, fun h => by cases h⟩

theorem over : Rows.lowBoundRow.holds Tryz.pinned (OpenSpec.ofChange Rows.lowBoundSpec) :=
  OpenClaim.holds_of_wide 14 Tryz.f14 rfl rfl rfl rfl rfl rfl rfl ⟨rfl, rfl, rfl, rfl, rfl⟩ rfl rfl rfl rfl rfl (by kernel_rfl) Tryz.func14 (by kernel_rfl)
    (of_decide_eq_true (by kernel_rfl)) (by unfold Func.isWrapper; first | (rw [if_pos (by decide +kernel)]; kernel_rfl) | (rw [if_neg (by decide +kernel)]; exact ⟨rfl, rfl⟩))
    (fun os started H enc _ => lifted os started H enc)

/-- THE STATEMENT -/
theorem proved : Rows.LowBoundSaid := over
#print axioms proved
end Go.Proofs.YtggfdlanobndjaaGreat.lowBound
