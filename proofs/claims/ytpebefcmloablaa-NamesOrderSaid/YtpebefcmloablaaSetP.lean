/- carry.Set: the plain law of the buckets; shl and and of powers of two. -/
import Derived.Test.YtpebefcmloablaaCarB
import Derived.Test.YtpebefcmloablaaSlc
namespace Go.Proofs.Ytpebefcmloablaa
open Go.RowKit Go.Maps
set_option linter.unusedSimpArgs false
set_option linter.unusedVariables false

theorem two_pow_lt (i : Nat) (hi : i < 14) : 0 < 2 ^ i ∧ 2 ^ i ≤ 8192 := ⟨Nat.pos_pow_of_pos_two i, Nat.pow_le_pow_right (by decide) (by omega : i ≤ 13)⟩
where Nat.pos_pow_of_pos_two (i : Nat) : 0 < 2 ^ i := Nat.pow_pos (by decide)

theorem q_shl (i : Nat) (hi : i < 14) (w : World) : (binOp .shl 3 (.int .i64 1) (.int .i64 i)).run Try.prog w = .ok (.int .i64 ((2 ^ i : Nat) : Int)) w := by
  have h := two_pow_lt i hi
  have hm : min i 64 = i := by omega
  have hw : IntKind.i64.wrap ((2 ^ i : Nat) : Int) = ((2 ^ i : Nat) : Int) := by
    generalize 2 ^ i = p at *
    simp [IntKind.wrap, IntKind.bits, IntKind.signed]
    omega
  rw [Int.natCast_pow] at hw ⊢
  simpa [binOp] using hw

theorem q_wrap (i : Nat) (hi : i < 14) : wrap64 ((2 : Int) ^ i) = ((2 ^ i : Nat) : Int) := by
  have h := two_pow_lt i hi
  rw [show ((2 : Int) ^ i) = ((2 ^ i : Nat) : Int) by rw [Int.natCast_pow]; rfl]
  generalize 2 ^ i = p at *
  unfold wrap64
  omega

theorem q_and (n i : Nat) (hi : i < 14) (hn : n ≤ 10000) : bits .and .i64 (n : Int) ((2 ^ i : Nat) : Int) = (if n.testBit i then ((2 ^ i : Nat) : Int) else 0) := by
  have h := two_pow_lt i hi
  have e1 : (BitVec.ofInt 64 (n : Int)).toNat = n := by
    rw [BitVec.ofInt_natCast, BitVec.toNat_ofNat]; exact Nat.mod_eq_of_lt (by omega)
  have e2 : (BitVec.ofInt 64 ((2 ^ i : Nat) : Int)).toNat = 2 ^ i := by
    rw [BitVec.ofInt_natCast, BitVec.toNat_ofNat]; exact Nat.mod_eq_of_lt (by omega)
  show IntKind.i64.wrap ((BitVec.ofInt 64 (n : Int) &&& BitVec.ofInt 64 ((2 ^ i : Nat) : Int)).toNat : Int) = _
  have e3 : n &&& 2 ^ i = if n.testBit i then 2 ^ i else 0 := by
    apply Nat.eq_of_testBit_eq
    intro j
    rw [Nat.testBit_and, Nat.testBit_two_pow]
    by_cases hij : i = j
    · subst hij
      cases hb : n.testBit i <;> simp [Nat.testBit_two_pow]
    · cases hb : n.testBit i <;> simp [hij, Nat.testBit_two_pow]
  rw [BitVec.toNat_and, e1, e2, e3]
  generalize 2 ^ i = p at *
  cases n.testBit i <;> simp [IntKind.wrap, IntKind.bits, IntKind.signed]
  omega

theorem testBit_mod (n i : Nat) : n.testBit i = decide (2 ^ i ≤ n % 2 ^ (i + 1)) := by
  rw [Nat.testBit_eq_decide_div_mod_eq, Nat.mod_pow_succ]
  have h1 : n % 2 ^ i < 2 ^ i := Nat.mod_lt _ (Nat.pow_pos (by decide))
  have h2 : n / 2 ^ i % 2 = 0 ∨ n / 2 ^ i % 2 = 1 := by omega
  generalize n / 2 ^ i % 2 = b at *
  generalize n % 2 ^ i = r at *
  generalize 2 ^ i = p at *
  rcases h2 with rfl | rfl
  · have : ¬ p ≤ r + p * 0 := by omega
    rw [decide_eq_false this]; rfl
  · have : p ≤ r + p * 1 := by omega
    simp [this]

theorem mod_step (n i : Nat) : (n.testBit i = true → n % 2 ^ (i + 1) = n % 2 ^ i + 2 ^ i) ∧ (n.testBit i = false → n % 2 ^ (i + 1) = n % 2 ^ i) := by
  rw [Nat.testBit_eq_decide_div_mod_eq, Nat.mod_pow_succ]
  have h2 : n / 2 ^ i % 2 = 0 ∨ n / 2 ^ i % 2 = 1 := by omega
  generalize n / 2 ^ i % 2 = b at *
  rcases h2 with rfl | rfl <;> simp

/-- a list in buckets: those of which the length has the bit, the greatest first -/
def setC : Nat → List Ent → List (List Ent)
  | 0, _ => []
  | k + 1, r => if 2 ^ k ≤ r.length then setC k (r.drop (2 ^ k)) ++ [r.take (2 ^ k)] else setC k r ++ [[]]

theorem setC_len : ∀ (k : Nat) (r : List Ent), (setC k r).length = k
  | 0, _ => rfl
  | k + 1, r => by
    unfold setC
    split <;> simp [setC_len k]

theorem setC_size : ∀ (k : Nat) (r : List Ent) (i : Nat) (h : i < (setC k r).length), (setC k r)[i].length = 0 ∨ (setC k r)[i].length = 2 ^ i
  | 0, _, i, h => by cases h
  | k + 1, r, i, h => by
    have hl := setC_len (k + 1) r
    unfold setC
    split
    · rename_i hk
      by_cases hik : i < k
      · rw [List.getElem_append_left (by rw [setC_len]; exact hik)]
        exact setC_size k _ i _
      · obtain rfl : i = k := by omega
        rw [List.getElem_append_right (by rw [setC_len]; exact Nat.le_refl _)]
        right
        simp only [setC_len, Nat.sub_self, List.getElem_cons_zero, List.length_take]
        omega
    · by_cases hik : i < k
      · rw [List.getElem_append_left (by rw [setC_len]; exact hik)]
        exact setC_size k _ i _
      · obtain rfl : i = k := by omega
        rw [List.getElem_append_right (by rw [setC_len]; exact Nat.le_refl _)]
        left
        simp only [setC_len, Nat.sub_self, List.getElem_cons_zero, List.length_nil]

theorem setC_perm : ∀ (k : Nat) (r : List Ent), r.length < 2 ^ k → (setC k r).flatten.Perm r
  | 0, r, h => by
    obtain rfl : r = [] := List.eq_nil_of_length_eq_zero (by simpa using h)
    exact List.Perm.refl _
  | k + 1, r, h => by
    unfold setC
    rw [Nat.pow_succ] at h
    split
    · rename_i hk
      rw [List.flatten_append]
      simp only [List.flatten_cons, List.flatten_nil, List.append_nil]
      have h1 := setC_perm k (r.drop (2 ^ k)) (by rw [List.length_drop]; omega)
      have h2 : (r.take (2 ^ k) ++ r.drop (2 ^ k)) = r := List.take_append_drop _ _
      refine (List.Perm.append_right _ h1).trans (List.perm_append_comm.trans ?_)
      rw [h2]
    · rw [List.flatten_append]
      simp only [List.flatten_cons, List.flatten_nil, List.append_nil]
      exact setC_perm k r (by omega)

theorem setC_last (k : Nat) (r : List Ent) (h : 2 ^ k ≤ r.length) (h' : k < (setC (k + 1) r).length) : (setC (k + 1) r)[k] ≠ [] := by
  have e : setC (k + 1) r = setC k (r.drop (2 ^ k)) ++ [r.take (2 ^ k)] := by rw [setC, if_pos h]
  have h1 : (setC (k + 1) r)[k]? = some (r.take (2 ^ k)) := by
    rw [e, List.getElem?_append_right (by rw [setC_len]; exact Nat.le_refl _), setC_len, Nat.sub_self]; rfl
  rw [List.getElem?_eq_getElem h'] at h1
  injection h1 with h1
  rw [h1]
  intro h2
  have := congrArg List.length h2
  have h0 : 0 < 2 ^ k := Nat.pow_pos (by decide)
  rw [List.length_take, List.length_nil] at this
  omega

section
variable {P : Program} {ops : Array Oper} {rest : List Oper} {o : Oper} {a : Act} {Q : Exit → Act → World → Prop}
/-- reslicing; what is so read at any world is read so -/
theorem wp_sliceKA {α : Type} {enc : α → List Value} {sz : Nat} {t e : TypeId} {bytes : Nat} (E : ElemOK P t e sz bytes) {W : World} {ad : Option Addr} {l : List α} {c : Nat} (hl : RdK enc sz W ad l) (hc : l.length ≤ c) (lo hi : Nat) (h1 : lo ≤ hi) (h2 : hi ≤ l.length)
    (hgd : o.guard = none) (x : Operand) (low high : Option Operand) (ho : o.op = .slice t x low high none) (hx : a.eval x = .slice ad l.length c)
    (hlow : (low.map a.eval).getD (.int .i64 0) = .int .i64 lo) (hhigh : (high.map a.eval).getD (.int .i64 l.length) = .int .i64 hi)
    (h : ∀ ad', (∀ W', RdK enc sz W' ad l → RdK enc sz W' ad' ((l.take hi).drop lo)) → wpList P ops Q rest (a.put o.dst (.slice ad' (hi - lo) (c - lo))) W) : wpList P ops Q (o :: rest) a W := by
  obtain ⟨ht, ⟨i, z, hi', hz, hsize, hby, hzs⟩, hsz⟩ := E
  refine wpList_plain hgd fun K hK => ?_
  have hk := hK _ _ (h _ (fun W' hl' => rdk_cut hl' hc lo hi h2))
  have hu : ∀ W', (underlying t).run P W' = .ok (.slice e) W' := fun W' => run_underlying ht W'
  have hs : ∀ W', (sizeOf e).run P W' = .ok sz W' := fun W' => by simp [sizeOf, typeInfo, hi', hsize]
  unfold Oper.wp execOp
  have hhc : hi ≤ c := by omega
  rcases low with _ | lw
  · simp only [Option.map_none, Option.getD_none, Value.int.injEq, true_and] at hlow
    obtain rfl : lo = 0 := by omega
    rcases high with _ | hg
    · simp only [Option.map_none, Option.getD_none, Value.int.injEq, true_and] at hhigh
      obtain rfl : hi = l.length := by omega
      simp only [ho, hx, Option.map_none, Instr.sliceAt, Instr.slice, Instr.sliceBounds, Sem.run_bind, hu, hs, Result.andThen_ok, Sem.run_pure]
      exact hk
    · simp only [Option.map_some, Option.getD_some] at hhigh
      simp [ho, hx, hhigh, Instr.sliceAt, Instr.slice, Instr.sliceBounds, Instr.sliceBound, hu, hs, asIntOf, hhc]
      simp only [Nat.zero_mul, Nat.sub_zero] at hk
      exact hk
  · simp only [Option.map_some, Option.getD_some] at hlow
    rcases high with _ | hg
    · simp only [Option.map_none, Option.getD_none, Value.int.injEq, true_and] at hhigh
      obtain rfl : hi = l.length := by omega
      simp [ho, hx, hlow, Instr.sliceAt, Instr.slice, Instr.sliceBounds, Instr.sliceBound, hu, hs, asIntOf, h1]
      exact hk
    · simp only [Option.map_some, Option.getD_some] at hhigh
      simp [ho, hx, hlow, hhigh, Instr.sliceAt, Instr.slice, Instr.sliceBounds, Instr.sliceBound, hu, hs, asIntOf, h1, hhc]
      exact hk
end

end Go.Proofs.Ytpebefcmloablaa
