/- names' entries: their rows; slices.Clone, SortFunc, BinarySearchFunc. -/
import Derived.Test.YtpebefcmloablaaPtS
import Derived.Test.YtpebefcmloablaaLog
import Derived.Test.YtpebefcmloablaaApB
import Derived.RangeFuncBox
namespace Go.Proofs.Ytpebefcmloablaa
open Go.RowKit Go.Sort Go.Shelf Go.Lib Go.Maps
set_option linter.unusedSimpArgs false
set_option linter.unusedVariables false

/-- a name, and its number -/
abbrev Ent := Int × Int
def eEnt (p : Ent) : List Value := [.int .u32 p.1, .int .i64 p.2]
abbrev vEnt (x n : Int) : Value := .agg #[.int .u32 x, .int .i64 n]
theorem eEnt_len (p : Ent) : (eEnt p).length = 2 := rfl
theorem eEnt_one (p : Ent) : ∀ u ∈ eEnt p, u.oneCell' = true := by intro u hu; simp [eEnt] at hu; rcases hu with rfl | rfl <;> rfl
theorem elEnt : ElemOK Try.prog 89 86 2 16 := .mk' (z := .agg #[.int .u32 0, .int .i64 0]) Try.underlying89 (by kernel_rfl) rfl (by decide)
theorem elHdr : ElemOK Try.prog 68 89 1 24 := .mk' (z := .slice none 0 0) Try.underlying68 (by kernel_rfl) rfl (by decide)

set_option maxHeartbeats 400000 in
theorem cloneEnt (a : Option Addr) (l : List Ent) (n c : Nat) (w : World) (hn : l.length = n) (h : RdK eEnt 2 w a l) (hl : n ≤ 1000000) :
    Calls Try.prog 66 #[.slice a n c] w fun e w' => ∃ v, e = .returned v ∧ w'.ownsRow w.heap.size 86 2 v n (l.flatMap eEnt) ∧ Below w.heap.size w w' := by
  subst hn
  have q22 : ∀ (w : World) (a : Option Addr) (n c n' c' : Nat), (binOp .eql 89 (.slice a n c) (.slice none n' c')).run Try.prog w = .ok (.bool a.isNone) w := fun w a n c n' c' => Lib.run_eql_slice_nil w _ _ a n c n' c' Try.underlying89
  cases a with
  | none =>
    have e0 : l = [] := by
      rcases h with h | ⟨b, off, h, _⟩
      · exact h
      · cases h
    subst e0
    go_enter Try.func66, Try.ntmps66
    go_wp2
    go_ret
    exact ⟨_, rfl, World.ownsRow_nil _ _ _ _, Below.refl _ _⟩
  | some ad =>
    have hown := World.ownsRow_made (e := 86) (size := 2) w #[] 0 (Nat.le_refl _) (Nat.zero_le _) rfl
    have h' : RdK eEnt 2 (w.alloc (.cells #[] 86)) (some ad) l := h.below ((Below.refl _ _).alloc (Nat.le_refl _) _)
    clear h
    go_enter Try.func66, Try.ntmps66
    go_wp2_with (at_builtin; refine wp_appendK elEnt eEnt_len eEnt_one w.heap.size hown h' rfl _ _ rfl rfl c rfl (by unfold maxLen; omega) (by omega) (by simp) ?_; intro v' w' hown' hg)
    go_ret
    rw [Nat.zero_add, List.nil_append] at hown'
    exact ⟨_, rfl, hown', below_grown ((Below.refl _ _).alloc (Nat.le_refl _) _) hown hg (by simp) (Nat.le_refl _)⟩


/-- how two entries stand -/
def ordE (p q : Ent) : Int := cmpI p.1 q.1
theorem ordE_lt (p q : Ent) : ordE p q < 0 ↔ p.1 < q.1 := by unfold ordE cmpI; split <;> (try split) <;> omega
theorem swoE : SWO (ltOf ordE) := swo_of_lt ordE_lt (fun _ => Int.lt_irrefl _) (fun _ _ _ => Int.lt_trans) (fun x y z => by omega)

set_option maxHeartbeats 400000 in
theorem iSorted1 (p q : Ent) (w : World) : Calls Try.prog 68 #[vEnt p.1 p.2, vEnt q.1 q.2] w fun e w' => e = .returned (.int .i64 (ordE p q)) ∧ Grw w w' := by
  have C1 := Lib.hid (fun W => cmpName p.1 q.1 W)
  unfold ordE
  generalize cmpI p.1 q.1 = r at *
  obtain ⟨px, pn⟩ := p
  obtain ⟨qx, qn⟩ := q
  simp only at C1
  go_enter Try.func68, Try.ntmps68
  go_wp2_with fail
  refine (C1.out _).mono ?_
  rintro e w1 ⟨rfl, rfl⟩
  go_wp2
  go_ret
  exact ⟨rfl, ((Grw.refl _).alloc _).alloc _⟩

theorem enters_sorted1 : ∀ args w, (callFunc 68 args).run Try.prog w = .ok (.enter 68 args) w := enters_of Try.func68 (by kernel_rfl) rfl

/-- names.sorted: a row of the call's own, put in order -/
theorem sortEnt {w : World} {base g c n : Nat} {l : List Ent} (hn : l.length = n) (hsz : n < 4611686018427387904) (h : w.ownsRow base 86 2 (.slice (some ⟨g, 0, none⟩) n c) n (l.flatMap eEnt)) :
    Calls Try.prog 67 #[.slice (some ⟨g, 0, none⟩) n c, .func (.func 68) #[] #[]] w fun e w' =>
      e = .returned (.tuple #[]) ∧ ∃ l' : List Ent, l'.Perm l ∧ l'.Pairwise (fun x y => x.1 ≤ y.1) ∧ w'.ownsRow base 86 2 (.slice (some ⟨g, 0, none⟩) n c) n (l'.flatMap eEnt) ∧ w.grownBy w' (some g) := by
  have hc := sortFunc_owned Try.sortEntry eEnt_len (by decide) Try.isAgg86 Try.sizeOf86 eEnt_one ordE swoE 68 #[] enters_sorted1 (fun x y W => iSorted1 x y W) hn hsz h
  change Calls Try.prog 67 _ _ _ at hc
  refine hc.mono ?_
  rintro e w' ⟨he, l', hp, hs, ho, hg⟩
  refine ⟨he, l', hp, hs.imp fun {a b} h => ?_, ho, hg⟩
  rw [ordE_lt] at h
  omega

theorem sortEnt_none (p : Option Addr) (cap : Nat) (fv : Value) (w : World) :
    Calls Try.prog 67 #[.slice p 0 cap, fv] w fun e w' => e = .returned (.tuple #[]) ∧ w' = w := AnyF.slices_SortFunc_none Try.sortEntry p cap fv w

set_option maxRecDepth 100000 in
set_option maxHeartbeats 1000000 in
theorem sorted_calls {w : World} {base n : Nat} {v : Value} {l : List Ent} (hn : l.length = n) (hsz : n < 4611686018427387904) (h : w.ownsRow base 86 2 v n (l.flatMap eEnt)) (hb : base ≤ w.heap.size) :
    Calls Try.prog 52 #[v] w fun e w' => e = .returned v ∧ ∃ l' : List Ent, l'.Perm l ∧ l'.Pairwise (fun x y => x.1 ≤ y.1) ∧ w'.ownsRow base 86 2 v n (l'.flatMap eEnt) ∧ Below base w w' := by
  rcases h.2 with ⟨rfl, h0⟩ | ⟨g, cap, cur, rfl, hg, _⟩
  · subst h0
    obtain rfl : l = [] := List.eq_nil_of_length_eq_zero hn
    have hh := Lib.hid h
    clear h
    go_enter Try.func52, Try.ntmps52
    go_wp2_with fail
    refine (sortEnt_none none 0 _ w).mono ?_
    rintro e w' ⟨rfl, rfl⟩
    go_wp2
    go_ret
    exact ⟨rfl, [], List.Perm.refl _, List.Pairwise.nil, hh.out, Below.refl _ _⟩
  · have C := Lib.hid (sortEnt hn hsz h)
    clear h
    go_enter Try.func52, Try.ntmps52
    go_wp2_with fail
    refine C.out.mono ?_
    rintro e w' ⟨rfl, l', hp, hs, ho, hgr⟩
    go_wp2
    go_ret
    exact ⟨rfl, l', hp, hs, ho, below_of_grown hgr hb hg⟩

end Go.Proofs.Ytpebefcmloablaa
