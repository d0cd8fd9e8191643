/- Reslicing a slice of structs, in one way. No function of the program is walked here. -/
import Derived.Test.YtpebefcmloablaaStr
namespace Go.Proofs.Ytpebefcmloablaa
open Go.RowKit

section
variable {P : Program} {ops : Array Oper} {rest : List Oper} {o : Oper} {a : Act} {Q : Exit → Act → World → Prop}

theorem rdk_cut {α : Type} {enc : α → List Value} {sz : Nat} {W : World} {ad : Option Addr} {l : List α} {c : Nat} (hl : RdK enc sz W ad l) (hc : l.length ≤ c) (lo hi : Nat) (hh : hi ≤ l.length) :
    RdK enc sz W (if c = lo then ad else ad.map (·.add (lo * sz))) ((l.take hi).drop lo) := by
  by_cases h : c = lo
  · exact .inl (by rw [List.drop_eq_nil_iff, List.length_take]; omega)
  · rw [if_neg h]
    rcases hl with rfl | ⟨b, off, rfl, hb, hcs⟩
    · exact .inl (by simp)
    · have h1 : RdK enc sz W (some ⟨b, off, none⟩) l := .inr ⟨b, off, rfl, hb, hcs⟩
      have hadd : (⟨b, off, none⟩ : Addr).add (lo * sz) = ⟨b, off + lo * sz, none⟩ := by unfold Addr.add; split <;> simp_all
      simp only [Option.map_some, hadd]
      exact (h1.take hi).drop lo

theorem wp_sliceK {α : Type} {enc : α → List Value} {sz : Nat} {t e : TypeId} {bytes : Nat} (E : ElemOK P t e sz bytes) {W : World} {ad : Option Addr} {l : List α} {c : Nat} (hl : RdK enc sz W ad l) (hc : l.length ≤ c) (lo hi : Nat) (h1 : lo ≤ hi) (h2 : hi ≤ l.length)
    (hgd : o.guard = none) (x : Operand) (low high : Option Operand) (ho : o.op = .slice t x low high none) (hx : a.eval x = .slice ad l.length c)
    (hlow : (low.map a.eval).getD (.int .i64 0) = .int .i64 lo) (hhigh : (high.map a.eval).getD (.int .i64 l.length) = .int .i64 hi)
    (h : ∀ ad', RdK enc sz W ad' ((l.take hi).drop lo) → wpList P ops Q rest (a.put o.dst (.slice ad' (hi - lo) (c - lo))) W) : wpList P ops Q (o :: rest) a W := by
  obtain ⟨ht, ⟨i, z, hi', hz, hsize, hby, hzs⟩, hsz⟩ := E
  refine wpList_plain hgd fun K hK => ?_
  have hk := hK _ _ (h _ (rdk_cut hl hc lo hi h2))
  have hu : ∀ W', (underlying t).run P W' = .ok (.slice e) W' := fun W' => run_underlying ht W'
  have hs : ∀ W', (sizeOf e).run P W' = .ok sz W' := fun W' => by simp [sizeOf, typeInfo, hi', hsize]
  unfold Oper.wp execOp
  have hhc : hi ≤ c := by omega
  rcases low with _ | lw
  · simp only [Option.map_none, Option.getD_none, Value.int.injEq, true_and] at hlow
    obtain rfl : lo = 0 := by omega
    rcases high with _ | hg
    · simp only [Option.map_none, Option.getD_none, Value.int.injEq, true_and] at hhigh
      obtain rfl : hi = l.length := by omega
      simp only [ho, hx, Option.map_none, Instr.sliceAt, Instr.slice, Instr.sliceBounds, Sem.run_bind, hu, hs, Result.andThen_ok, Sem.run_pure]
      exact hk
    · simp only [Option.map_some, Option.getD_some] at hhigh
      simp [ho, hx, hhigh, Instr.sliceAt, Instr.slice, Instr.sliceBounds, Instr.sliceBound, hu, hs, asIntOf, hhc]
      simp only [Nat.zero_mul, Nat.sub_zero] at hk
      exact hk
  · simp only [Option.map_some, Option.getD_some] at hlow
    rcases high with _ | hg
    · simp only [Option.map_none, Option.getD_none, Value.int.injEq, true_and] at hhigh
      obtain rfl : hi = l.length := by omega
      simp [ho, hx, hlow, Instr.sliceAt, Instr.slice, Instr.sliceBounds, Instr.sliceBound, hu, hs, asIntOf, h1]
      exact hk
    · simp only [Option.map_some, Option.getD_some] at hhigh
      simp [ho, hx, hlow, hhigh, Instr.sliceAt, Instr.slice, Instr.sliceBounds, Instr.sliceBound, hu, hs, asIntOf, h1, hhc]
      exact hk
end
end Go.Proofs.Ytpebefcmloablaa
