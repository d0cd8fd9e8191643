/- A quiet region inside a round of a range over a function. -/
import Derived.Test.YtpebefcmloablaaBase
import Derived.Sort.QuietIn
import Derived.OwnWalkIn
namespace Go.Proofs.Ytpebefcmloablaa

/-- no defer statement among them -/
def noDefer (l : List Oper) : Bool := l.all fun o => match o.op with | .defer _ => false | _ => true
theorem noDefer_op {l : List Oper} (h : noDefer l = true) {o : Oper} (ho : o ∈ l) : ∀ c, o.op ≠ .defer c := fun c e => by
  have := List.all_eq_true.1 h o ho
  rw [e] at this
  cases this

section
variable {F : Fence} {n : Nat} {P : Program} {ops : Array Oper} {C : World → Prop} {md : Region.Mode}

theorem oper_of_quiet {o : Oper} (hd : ∀ c, o.op ≠ .defer c) {a : Act} {K : Act → Prop} {K' : Act → World → Prop} {Q' : Exit → Act → World → Prop} {w : World} (hw : C w) (h : ∀ a w', C w' → K a → K' a w')
    (ha : o.askedIn F P a C) (hh : o.quietIn F n P a C K) : o.wpIn F n P a w K' Q' := by
  obtain ⟨v, h1, h2⟩ := hh
  refine ⟨ha w hw, ?_⟩
  rw [Oper.semAt_plain F _ _ hd]
  have h3 : Oper.quietUponIn F n P C w v ((execOp a.eval o).run P w) := h1 w hw
  revert h3
  generalize (execOp a.eval o).run P w = r
  intro h3
  rcases r with ⟨x, w'⟩ | ⟨x, w'⟩
  · cases x with
    | value u => obtain ⟨e1, e2⟩ := h3; subst e1 e2; exact h _ _ hw h2
    | skip => obtain ⟨e1, e2⟩ := h3; subst e1 e2; exact h _ _ hw h2
    | enter f args => obtain ⟨e1, hn, hc⟩ := h3; subst e1; exact ⟨hn, hc.mono fun e w'' hq => by obtain ⟨he, hq⟩ := hq; subst he; exact h _ _ hq h2⟩
    | _ => exact h3.elim
  · exact h3.elim

theorem any_of_quiet (hd : ∀ o ∈ ops, ∀ c, o.op ≠ .defer c) {Q : Act → Prop} {Q' : Exit → Act → World → Prop} (hQ : ∀ a w, C w → Q a → Q' .normal a w) : ∀ (fuel : Nat) (listed : Array Bool) (a : Act) (w : World), C w →
    wpAnyQIn F n P md ops C Q fuel listed a → wpAnyIn F n P md ops Q' fuel listed a w
  | 0, _, _, _, hw, h => ⟨h.1, hQ _ _ hw h.2⟩
  | fuel + 1, listed, a, w, hw, h => by
    refine ⟨fun h0 => hQ _ _ hw (h.1 h0), fun i hi => ?_⟩
    have hq := h.2 i hi
    have next : ∀ (a' : Act) (w' : World), C w' → wpAnyQIn F n P md ops C Q fuel (listed.setIfInBounds i true) a' → wpAnyIn F n P md ops Q' fuel (listed.setIfInBounds i true) a' w' := fun a' w' hw' => any_of_quiet hd hQ fuel _ a' w' hw'
    unfold qOpIn at hq
    unfold wpOpIn
    split
    · rename_i e; rw [e] at hq; exact next _ _ hw hq
    · rename_i o e
      rw [e] at hq
      obtain ⟨ha, hq⟩ := hq
      split
      · rename_i hwt
        rw [if_pos hwt] at hq
        exact oper_of_quiet (hd o (Array.mem_of_getElem? e)) hw next ha hq
      · rename_i hwt
        rw [if_neg hwt] at hq
        exact ⟨ha w hw, next _ _ hw hq⟩

theorem region_quiet_rnd {id : Nat} {Q : Exit → Act → World → Prop} {a : Act} {w : World} {l : List Oper} (hm : P.follows .mixedOrders = true) (hB : Region.lexB .any l.toArray = true) (hd : noDefer l = true)
    (h : wpQuietIn F n P l.toArray (fun w' => ∃ n, w' = w.drewN n) (fun a' => ∀ w', (∃ n, w' = w.drewN n) → Q .normal a' w') l a) : (Code.region id l.toArray true).wpIn F n P Q a w := by
  obtain ⟨hB1, hB2⟩ := by simpa only [Region.lexB, Bool.and_eq_true] using hB
  refine wpIn_region_any hm (any_of_quiet (C := fun w' => ∃ n, w' = w.drewN n) (Q := fun a' => ∀ w', (∃ n, w' = w.drewN n) → Q .normal a' w') (fun o ho => noDefer_op hd (by simpa using ho)) (fun _ w' hw' h => h w' hw') _ _ _ _ ⟨1, rfl⟩ ?_)
  have := wpAnyQIn_lex (F := F) (n := n) (P := P) (md := .any) (C := fun w' => ∃ n, w' = w.drewN n) hB1 l 0 (Array.replicate l.toArray.size false) a (by simp) (by simpa using hB2) h
  simpa using this
end

end Go.Proofs.Ytpebefcmloablaa
