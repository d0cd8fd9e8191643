/- Reslicing among the operations that a drawn region takes first. No function of the program is walked here. -/
import Derived.Test.YthplgcakhniidaaGreatQ3
namespace Go.Proofs.YthplgcakhniidaaGreat
open Go Go.RowKit
set_option linter.unusedSimpArgs false
set_option linter.unusedVariables false

theorem step_hdSlice {P : Program} {ops : Array Oper} {o : Oper} {a : Act} {C : World → Prop} {b : Bool} {K : Act → Prop} {E0 : Prop} {α : Type} {enc : α → List Value} {sz : Nat} {t e : TypeId} {bytes : Nat} (E : ElemOK P t e sz bytes) (ad : Option Addr) (l : List α) (n c m : Nat) (hl : l.length = n) (hc : n ≤ c) (hm : m ≤ n)
    (hgd : o.guard = none) (x hg : Operand) (ho : o.op = .slice t x none (some hg) none) (hx : a.eval x = .slice ad n c) (hhigh : a.eval hg = .int .i64 m)
    (h : ∀ ad', (∀ W, RdK enc sz W ad l → RdK enc sz W ad' (l.take m)) → K (a.put o.dst (.slice ad' m c))) :
    if Region.wanted o (yielded ops a.tmps) = true then Oper.still1 P o a C b K else E0 := by
  subst hl
  have hw : Region.wanted o (yielded ops a.tmps) = true := by simp [Region.wanted, hgd]
  rw [if_pos hw]
  obtain ⟨ht, ⟨i, z, hi', hz, hsize, hby, hzs⟩, hsz⟩ := E
  have hu : ∀ W', (underlying t).run P W' = .ok (.slice e) W' := fun W' => run_underlying ht W'
  have hs : ∀ W', (sizeOf e).run P W' = .ok sz W' := fun W' => by simp [sizeOf, typeInfo, hi', hsize]
  have hhc : m ≤ c := by omega
  refine ⟨.slice (if c = 0 then ad else ad.map (·.add (0 * sz))) m c, fun w _ => ?_, h _ fun W hr => ?_⟩
  · unfold execOp
    simp [ho, hx, hhigh, Instr.sliceAt, Instr.slice, Instr.sliceBounds, Instr.sliceBound, hu, hs, asIntOf, hhc]
  · have := rdk_cut (c := c) hr hc 0 m hm
    rwa [List.drop_zero] at this
end Go.Proofs.YthplgcakhniidaaGreat
