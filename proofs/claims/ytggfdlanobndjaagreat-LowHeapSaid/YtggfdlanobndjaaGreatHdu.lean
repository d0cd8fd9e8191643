/- Regions that draw their order: another class from some operation on. No function of the program is walked here. -/
import Derived.Test.YtggfdlanobndjaaGreatQ3
import Derived.Deep.RegionLaw
namespace Go.Proofs.YtggfdlanobndjaaGreat
open Go Go.RowKit
set_option linter.unusedSimpArgs false
set_option linter.unusedVariables false

section
variable {P : Program} {ops : Array Oper} {Q : Exit → Act → World → Prop} {md : Region.Mode} {C C' : World → Prop} {T T' : List Nat}
/-- all that has not come up is of T -/
def restB (ops : Array Oper) (T : List Nat) (listed : Array Bool) : Bool := (List.range ops.size).all fun j => listed.getD j false || T.contains j
theorem wpAnyT_of_any : ∀ (fuel : Nat) (listed : Array Bool) (a : Act) (w : World), restB ops T listed = true → wpAny P md ops Q fuel listed a w → wpAnyT P md ops Q C T fuel listed a w
  | 0, _, _, _, _, h => h
  | fuel + 1, listed, a, w, hr, h => ⟨h.1, fun i hi => wpOp_mono (fun a' w' h' => by
    obtain ⟨hu, oi, hoi, -⟩ := mem_ready.1 hi
    have hsz : i < ops.size := (Array.getElem?_eq_some_iff.1 hoi).1
    have hT : i ∈ T := by
      have h1 := List.all_eq_true.1 hr i (List.mem_range.2 hsz)
      rw [getD_both hu] at h1
      simpa using h1
    refine ⟨fun _ h9 => absurd hT h9, wpAnyT_of_any fuel _ a' w' ?_ h'⟩
    refine List.all_eq_true.2 fun j hj => ?_
    have h2 := List.all_eq_true.1 hr j hj
    rcases (Bool.or_eq_true _ _).mp h2 with h2 | h2
    · rw [getD_set_true h2]; rfl
    · rw [h2]; simp) (h.2 i hi)⟩
/-- from here on another class, other operations that wait -/
theorem wpAnyT_turn (C' : World → Prop) (T' : List Nat) {fuel : Nat} {listed : Array Bool} {a : Act} {w : World} (hr : restB ops T listed = true) (h : wpAnyT P md ops Q C' T' fuel listed a w) : wpAnyT P md ops Q C T fuel listed a w :=
  wpAnyT_of_any fuel listed a w hr (wpAny_of_T fuel listed a w h)
end


/-- a call whose guard is met -/
theorem step_callG {P : Program} {ops : Array Oper} {o : Oper} {a : Act} {K : Act → World → Prop} {Q : Exit → Act → World → Prop} {E0 : Prop} {f : FuncId} {w : World} {vals : Array Value} {R : Ending → World → Prop} (hen : ∀ args w, (callFunc f args).run P w = .ok (.enter f args) w) (hw : Region.wanted o (yielded ops a.tmps) = true) (args : Array Operand) (tys : Array TypeId) (ho : o.op = .call { callee := .value (.func f), args := args, argTypes := tys }) (hargs0 : vals = (args.toList.map a.eval).toArray)
    (C : Calls P f vals w R) (h : ∀ e w', R e w' → ∃ v, e = .returned v ∧ K (a.put o.dst v) w') :
    if Region.wanted o (yielded ops a.tmps) = true then Oper.wp P o a w K Q else E0 := by
  rw [if_pos hw]
  unfold Oper.wp
  have hargs : args.map a.eval = vals := by rw [hargs0, ← Array.toList_map]
  have he : (execOp a.eval o).run P w = .ok (.enter f vals) w := by
    simp [execOp, ho, resolve, invoke, hargs, Act.eval, Deferred.ofValue, hen]
  rw [he, Oper.upon_enter]
  refine C.mono fun e w' hr => ?_
  obtain ⟨v, rfl, hk⟩ := h e w' hr
  exact hk
end Go.Proofs.YtggfdlanobndjaaGreat
