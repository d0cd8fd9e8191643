/- Reslicing among the operations that a drawn region takes first, behind a guard. No function of the program is walked here. -/
import Derived.Test.YtggfdlanobndjaaGreatQ3
namespace Go.Proofs.YtggfdlanobndjaaGreat
open Go Go.RowKit
set_option linter.unusedSimpArgs false
set_option linter.unusedVariables false

/-- reslicing among the operations that are taken first, behind a guard that is met -/
theorem step_hdSliceG {P : Program} {ops : Array Oper} {o : Oper} {a : Act} {C : World → Prop} {b : Bool} {K : Act → Prop} {E0 : Prop} {α : Type} {enc : α → List Value} {sz : Nat} {t e : TypeId} {bytes : Nat} (E : ElemOK P t e sz bytes) (ad : Option Addr) (l : List α) (c lo hi : Nat) (hc : l.length ≤ c) (h1 : lo ≤ hi) (h2 : hi ≤ l.length)
    (hw : Region.wanted o (yielded ops a.tmps) = true) (x : Operand) (low high : Option Operand) (ho : o.op = .slice t x low high none) (hx : a.eval x = .slice ad l.length c) (hlow : (low.map a.eval).getD (.int .i64 0) = .int .i64 lo) (hhigh : (high.map a.eval).getD (.int .i64 l.length) = .int .i64 hi)
    (h : ∀ ad', (∀ W, RdK enc sz W ad l → RdK enc sz W ad' ((l.take hi).drop lo)) → K (a.put o.dst (.slice ad' (hi - lo) (c - lo)))) :
    if Region.wanted o (yielded ops a.tmps) = true then Oper.still1 P o a C b K else E0 := by
  rw [if_pos hw]
  have h2' : hi ≤ c := by omega
  obtain ⟨ht, ⟨i, z, hi', hz, hsize, hby, hzs⟩, hsz⟩ := E
  have hu : ∀ W', (underlying t).run P W' = .ok (.slice e) W' := fun W' => run_underlying ht W'
  have hs : ∀ W', (sizeOf e).run P W' = .ok sz W' := fun W' => by simp [sizeOf, typeInfo, hi', hsize]
  refine ⟨_, fun w _ => ?_, h _ (fun W hr => rdk_cut hr hc lo hi h2)⟩
  unfold execOp
  rcases low with _ | lw
  · simp only [Option.map_none, Option.getD_none, Value.int.injEq, true_and] at hlow
    obtain rfl : lo = 0 := by omega
    rcases high with _ | hg
    · simp only [Option.map_none, Option.getD_none, Value.int.injEq, true_and] at hhigh
      obtain rfl : hi = l.length := by omega
      simp [ho, hx, Instr.sliceAt, Instr.slice, Instr.sliceBounds, Instr.sliceBound, hu, hs, asIntOf, h2']
    · simp only [Option.map_some, Option.getD_some] at hhigh
      simp [ho, hx, hhigh, Instr.sliceAt, Instr.slice, Instr.sliceBounds, Instr.sliceBound, hu, hs, asIntOf, h2']
  · simp only [Option.map_some, Option.getD_some] at hlow
    rcases high with _ | hg
    · simp only [Option.map_none, Option.getD_none, Value.int.injEq, true_and] at hhigh
      obtain rfl : hi = l.length := by omega
      simp [ho, hx, hlow, Instr.sliceAt, Instr.slice, Instr.sliceBounds, Instr.sliceBound, hu, hs, asIntOf, h1]
    · simp only [Option.map_some, Option.getD_some] at hhigh
      simp [ho, hx, hlow, hhigh, Instr.sliceAt, Instr.slice, Instr.sliceBounds, Instr.sliceBound, hu, hs, asIntOf, h1, h2']
end Go.Proofs.YtggfdlanobndjaaGreat
