/- Points: slices.Clone, SortFunc by X, Reverse. -/
import Derived.Test.YtpebefcmloablaaPt
import Derived.Test.YtpebefcmloablaaSortK
import Derived.Test.YtpebefcmloablaaShelf
import Derived.WalkSpells
namespace Go.Proofs.Ytpebefcmloablaa
open Go.RowKit Go.Sort Go.Shelf Go.Lib

instance : Inhabited Pt := ⟨(0, 0, 0)⟩

theorem swo_of_lt {α : Type} {cf : α → α → Int} {R : α → α → Prop} (h : ∀ x y, cf x y < 0 ↔ R x y) (hi : ∀ x, ¬ R x x) (ht : ∀ x y z, R x y → R y z → R x z) (hn : ∀ x y z, ¬ R x y → ¬ R y z → ¬ R x z) : SWO (ltOf cf) where
  irrefl x := by unfold ltOf; rw [decide_eq_false_iff_not, h]; exact hi x
  trans x y z h1 h2 := by unfold ltOf at *; rw [decide_eq_true_iff, h] at *; exact ht x y z h1 h2
  ntrans x y z h1 h2 := by unfold ltOf at *; rw [decide_eq_false_iff_not, h] at *; exact hn x y z h1 h2

theorem swoX : SWO (ltOf ordX) := swo_of_lt ordX_lt ltX_irr (fun _ _ _ => ltX_trans) (fun x y z => by unfold ltX; omega)

theorem below_of_grown {B g : Nat} {w w' : World} (h : w.grownBy w' (some g)) (hB : B ≤ w.heap.size) (hg : B ≤ g) : Below B w w' := grown_below h hB hg

set_option maxHeartbeats 400000 in
theorem clonePts (a : Option Addr) (l : List Pt) (n c : Nat) (w : World) (hn : l.length = n) (h : RdK ePt 3 w a l) (hl : n ≤ 1000000) :
    Calls Try.prog 40 #[.slice a n c] w fun e w' => ∃ v, e = .returned v ∧ w'.ownsRow w.heap.size 33 3 v n (l.flatMap ePt) ∧ Below w.heap.size w w' := by
  subst hn
  have q22 : ∀ (w : World) (a : Option Addr) (n c n' c' : Nat), (binOp .eql 22 (.slice a n c) (.slice none n' c')).run Try.prog w = .ok (.bool a.isNone) w := fun w a n c n' c' => Lib.run_eql_slice_nil w _ _ a n c n' c' Try.underlying22
  cases a with
  | none =>
    have e0 : l = [] := by
      rcases h with h | ⟨b, off, h, _⟩
      · exact h
      · cases h
    subst e0
    go_enter Try.func40, Try.ntmps40
    go_wp2
    go_ret
    exact ⟨_, rfl, World.ownsRow_nil _ _ _ _, Below.refl _ _⟩
  | some ad =>
    have hown := World.ownsRow_made (e := 33) (size := 3) w #[] 0 (Nat.le_refl _) (Nat.zero_le _) rfl
    have h' : RdK ePt 3 (w.alloc (.cells #[] 33)) (some ad) l := h.below ((Below.refl _ _).alloc (Nat.le_refl _) _)
    clear h
    go_enter Try.func40, Try.ntmps40
    go_wp2_with (at_builtin; refine wp_appendK elPoint ePt_len ePt_one w.heap.size hown h' rfl _ _ rfl rfl c rfl (by unfold maxLen; omega) (by omega) (by simp) ?_; intro v' w' hown' hg)
    go_ret
    rw [Nat.zero_add, List.nil_append] at hown'
    exact ⟨_, rfl, hown', below_grown ((Below.refl _ _).alloc (Nat.le_refl _) _) hown hg (by simp) (Nat.le_refl _)⟩

theorem sorted_srtX {l l' : List Pt} (hu : (ids l).Nodup) (hp : l'.Perm l) (hs : l'.Pairwise fun x y => ¬ ordX y x < 0) : l' = srtX l := by
  refine srtX_eq hu ?_ fun p => hp.mem_iff
  have h2 : (ids l').Nodup := (hp.map _).nodup_iff.2 hu
  have h3 : l'.Pairwise fun p q => p.2.2 ≠ q.2.2 := List.pairwise_map.1 h2
  refine (hs.and h3).imp fun {a b} hab => ?_
  obtain ⟨ha, hb⟩ := hab
  rw [ordX_lt] at ha
  unfold ltX at *
  omega

/-- slices.SortFunc(l, item.ByX) at unlike points: the row holds them in order -/
theorem sortPts {w : World} {base g c n : Nat} {l : List Pt} (hn : l.length = n) (hsz : n < 4611686018427387904) (h : w.ownsRow base 33 3 (.slice (some ⟨g, 0, none⟩) n c) n (l.flatMap ePt)) (hu : (ids l).Nodup) :
    Calls Try.prog 41 #[.slice (some ⟨g, 0, none⟩) n c, .func (.func 42) #[] #[]] w fun e w' =>
      e = .returned (.tuple #[]) ∧ w'.ownsRow base 33 3 (.slice (some ⟨g, 0, none⟩) n c) n ((srtX l).flatMap ePt) ∧ w.grownBy w' (some g) := by
  have hc := sortFunc_owned Try.sortPt ePt_len (by decide) Try.isAgg33 Try.sizeOf33 ePt_one ordX swoX 42 #[] enters_ByX (fun x y W => iByX x y W) hn hsz h
  change Calls Try.prog 41 _ _ _ at hc
  refine hc.mono ?_
  rintro e w' ⟨he, l', hp, hs, ho, hg⟩
  rw [sorted_srtX hu hp hs] at ho
  exact ⟨he, ho, hg⟩

theorem sortPts_none (p : Option Addr) (cap : Nat) (fv : Value) (w : World) :
    Calls Try.prog 41 #[.slice p 0 cap, fv] w fun e w' => e = .returned (.tuple #[]) ∧ w' = w := AnyF.slices_SortFunc_none Try.sortPt p cap fv w

/-- any slice of unlike points that the call owns -/
theorem sortPtsV {w : World} {base n : Nat} {v : Value} {l : List Pt} (hn : l.length = n) (hsz : n < 4611686018427387904) (h : w.ownsRow base 33 3 v n (l.flatMap ePt)) (hu : (ids l).Nodup) (hb : base ≤ w.heap.size) :
    Calls Try.prog 41 #[v, .func (.func 42) #[] #[]] w fun e w' =>
      e = .returned (.tuple #[]) ∧ w'.ownsRow base 33 3 v n ((srtX l).flatMap ePt) ∧ Below base w w' := by
  rcases h.2 with ⟨rfl, h0⟩ | ⟨g, cap, cur, rfl, hg, _⟩
  · subst h0
    obtain rfl : l = [] := List.eq_nil_of_length_eq_zero hn
    refine (sortPts_none none 0 _ w).mono ?_
    rintro e w' ⟨he, rfl⟩
    exact ⟨he, by simpa [srtX] using h, Below.refl _ _⟩
  · refine (sortPts hn hsz h hu).mono ?_
    rintro e w' ⟨he, ho, hgr⟩
    exact ⟨he, ho, below_of_grown hgr hb hg⟩

/-- slices.Reverse of points that the call owns -/
theorem revPts {w : World} {base n : Nat} {v : Value} {l : List Pt} (hn : l.length = n) (hsz : n ≤ 1000000) (h : w.ownsRow base 33 3 v n (l.flatMap ePt)) :
    Calls Try.prog 59 #[v] w fun e w' => e = .returned (.tuple #[]) ∧ w'.ownsRow base 33 3 v n (l.reverse.flatMap ePt) ∧ w.grownBy w' v.ownBlock := by
  rcases h.2 with ⟨rfl, h0⟩ | ⟨g, cap, cur, rfl, hg, _⟩
  · subst h0
    obtain rfl : l = [] := List.eq_nil_of_length_eq_zero hn
    have hc := AnyQ.slices_Reverse_empty Try.revPt none 0 w
    change Calls Try.prog 59 _ _ _ at hc
    refine hc.mono ?_
    rintro e w' ⟨he, rfl⟩
    exact ⟨he, by simpa using h, World.grownBy.refl _ _⟩
  · have hc := AnyQ.slices_Reverse Try.revPt 3 Try.isAgg33 Try.sizeOf33 ePt ePt_len ePt_one g 0 cap l.toArray w (holdsK_of_owned ePt_len (by decide) hn h) (by simp; omega)
    change Calls Try.prog 59 _ _ _ at hc
    rw [show l.toArray.size = n by simpa using hn] at hc
    refine hc.mono ?_
    rintro e w' ⟨he, m, rfl⟩
    have k := owned_putRowK (l' := l.reverse) ePt_len (by decide) (by simpa using hn) h m #[]
    rw [Sort.grow_empty] at k
    rw [show l.toArray.reverse = l.reverse.toArray by simp]
    exact ⟨he, k.1, k.2⟩

end Go.Proofs.Ytpebefcmloablaa
