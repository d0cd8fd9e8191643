/- What is left of points from which some were dropped; gridironlaw11.dropped, told whole. -/
import Derived.Test.YthpgkldpbbajfaaGreatQ7
namespace Go.Proofs.YthpgkldpbbajfaaGreat
open Go.RowKit Go.Maps
attribute [local irreducible] wpQuiet
set_option linter.unusedSimpArgs false
set_option linter.unusedVariables false

/-- what is left once the places that D tells were dropped -/
def dpl (l : List Pt) (D : List Int) : List Pt := D.foldl (fun L d => L.filter fun q => decide (q ≠ l.getD (d.toNat % l.length) (0, 0, 0))) l
theorem dpl_nil (l : List Pt) : dpl l [] = l := rfl
theorem dpl_succ (l : List Pt) (D : List Int) {i : Nat} (hi : i < D.length) (h0 : 0 < l.length) : dpl l (D.take (i + 1)) = (dpl l (D.take i)).filter fun q => decide (q ≠ l[D[i].toNat % l.length]'(Nat.mod_lt _ h0)) := by
  unfold dpl
  rw [List.take_succ_eq_append_getElem hi, List.foldl_append]
  have h : D[i].toNat % l.length < l.length := Nat.mod_lt _ h0
  simp only [List.foldl_cons, List.foldl_nil, List.getD_eq_getElem?_getD, List.getElem?_eq_getElem h, Option.getD_some]
theorem dpl_sub (l : List Pt) (D : List Int) : (dpl l D).Sublist l := by
  unfold dpl
  have h : ∀ (D : List Int) (L : List Pt), L.Sublist l → (D.foldl (fun L d => L.filter fun q => decide (q ≠ l.getD (d.toNat % l.length) (0, 0, 0))) L).Sublist l := by
    intro D
    induction D with
    | nil => intro L h; exact h
    | cons d D ih => intro L h; exact ih _ (List.filter_sublist.trans h)
  exact h D l (List.Sublist.refl l)
theorem dpl_none {l : List Pt} (h : l.length = 0) (D : List Int) : dpl l D = l := by
  have h1 := dpl_sub l D
  have h2 := List.eq_nil_of_length_eq_zero h
  subst h2
  exact List.eq_nil_of_sublist_nil h1

set_option maxRecDepth 100000 in
set_option maxHeartbeats 4000000 in
theorem dropped11_all (a b : Option Addr) (l : List Pt) (D : List Int) (n m c c' : Nat) (w : World) (hn : l.length = n) (hm : D.length = m) (hm2 : m ≤ c' ∧ c' ≤ maxLen) (h : RdK ePt 3 w a l) (h' : Rd (.int .u8) w b D) (hD : ∀ x ∈ D, (Lit.int .u8 x).wf = true) (hl : n ≤ 20000) (hw : wfN l) (hu : unl l = true) :
    Calls Tryz.prog 24 #[.slice a n c, .slice b m c'] w fun e w' => ∃ tb lo hi, e = .returned (.tuple #[.pointer (some ⟨tb, 0, none⟩), .bool true]) ∧ TreeAt w' lo hi tb n (dpl l (D.take 100)) ∧ w.heap.size ≤ lo ∧ Below w.heap.size w w' := by
  subst hn hm
  have hc := tBuild a c l w h hl hw hu
  replace hc := Lib.hid hc
  have HR := Lib.hid h
  have HR' := Lib.hid h'
  have HD := Lib.hid hD
  have DR := Lib.hid (fun (w : World) (lo hi tb n0 : Nat) (l' : List Pt) (h : TreeAt w lo hi tb n0 l') p => tDrop h p)
  clear h h' hD
  go_enter Tryz.func24, Tryz.ntmps24
  go_wp2_with (go_at_call 44; refine hc.out.mono ?_; rintro e w1 ⟨tb, rfl, hT1, hb1⟩)
  obtain ⟨m, hm, hm1, hmm⟩ : ∃ m : Nat, min (D.length : Int) 100 = (m : Int) ∧ m ≤ D.length ∧ m ≤ 100 := ⟨min D.length 100, by omega, by omega, by omega⟩
  have HT1 := Lib.hid hT1
  clear hT1 hc
  go_wp2
  rw [hm, show (m : Int).toNat = m by omega, show max (m : Int) 0 = (m : Int) by omega]
  have HMN := Lib.hid hm
  clear hm
  go_loopw [23] (fun iv wr => ∃ (i : Nat), iv = .int .i64 i ∧ i ≤ m ∧ Hid (TreeAt wr w.heap.size w1.heap.size tb l.length (dpl l (D.take i))) ∧ Below w.heap.size w wr) (fun iv _ => m - (intOf iv).toNat)
  case atStart => exact ⟨0, rfl, Nat.zero_le _, by rw [List.take_zero, dpl_nil]; exact HT1.out, hb1⟩
  case round =>
    obtain ⟨i, rfl, hi, HT, hb⟩ := hrel
    by_cases him : i < m
    · obtain ⟨b', off', ea, hbl, hcs⟩ := (HR'.out.below hb).get (by omega)
      have x0 := hcs i (by omega)
      have wf0 := HD.out D[i] (List.getElem_mem _)
      have HDS : Hid (∀ h0 : 0 < l.length, dpl l (D.take (i + 1)) = (dpl l (D.take i)).filter fun q => decide (q ≠ l[D[i].toNat % l.length]'(Nat.mod_lt _ h0))) := fun h0 => dpl_succ l D (by omega) h0
      have HDZ : Hid (l.length = 0 → dpl l (D.take (i + 1)) = dpl l (D.take i)) := fun h => by rw [dpl_none h, dpl_none h]
      have EA := Lib.hid ea
      clear hcs ea
      generalize D[i] = d at *
      obtain rfl := EA.out
      clear EA
      have hd0 : 0 ≤ d ∧ d ≤ 255 := by
        simp [Lit.wf, IntKind.min, IntKind.max, IntKind.signed, IntKind.bits] at wf0
        omega
      obtain ⟨e, rfl⟩ : ∃ e : Nat, d = e := ⟨d.toNat, by omega⟩
      have him2 : (i : Int) < (m : Int) := by omega
      by_cases h0 : 0 < l.length
      · have hj : e % l.length < l.length := Nat.mod_lt _ h0
        obtain ⟨b2, off2, ea2, hbl2, hcs2⟩ := (HR.out.below hb).get h0
        have z0 := hcs2 (e % l.length) hj 0 (by omega)
        have z1 := hcs2 (e % l.length) hj 1 (by omega)
        have z2 := hcs2 (e % l.length) hj 2 (by omega)
        simp only [ePt, List.getElem?_cons_zero, List.getElem?_cons_succ, Nat.add_zero] at z0 z1 z2
        have EA := Lib.hid ea2
        clear hcs2 ea2
        obtain ⟨p, hp⟩ : ∃ p, p = l[e % l.length] := ⟨_, rfl⟩
        rw [← hp] at z0 z1 z2
        have HD1 : Hid (dpl l (D.take (i + 1)) = (dpl l (D.take i)).filter fun q => decide (q ≠ p)) := by
          show _ = _
          rw [HDS.out h0, hp]
          rfl
        have DP := Lib.hid (DR.out wr _ _ _ _ _ HT.out p)
        clear HDS HDZ hp
        obtain ⟨px, py, pi⟩ := p
        simp only at z0 z1 z2
        obtain rfl := EA.out
        clear EA
        have hl0 : (0 : Int) < (l.length : Int) := by omega
        have hmod : Int.tmod (e : Int) (l.length : Int) = ((e % l.length : Nat) : Int) := by
          rw [Int.tmod_eq_emod_of_nonneg (by omega)]
          omega
        go_wp2_with (go_at_call 46; refine DP.out.mono ?_; rintro e' w2 ⟨rfl, hT2, hk2⟩)
        exact ⟨⟨i + 1, by go_num, by omega, Lib.hid (by rw [HD1.out]; exact hT2), hb.trans (hk2.toBelow hb.size (fun k h => h.1))⟩, by simp [intOf]; omega⟩
      · have hl0 : l.length = 0 := by omega
        go_wp2
        go_roundw
        case rel => exact ⟨i + 1, by go_num, by omega, Lib.hid (by rw [HDZ.out hl0]; exact HT.out), hb⟩
        case measure => simp [intOf]; omega
    · obtain rfl : i = m := by omega
      go_wp2
      go_ret2
      have e9 : D.take 100 = D.take i := by
        rcases Nat.lt_or_ge D.length 100 with h | h
        · rw [List.take_of_length_le (by omega), List.take_of_length_le (by have := HMN.out; omega)]
        · have : i = 100 := by have := HMN.out; omega
          rw [this]
      rw [e9]
      exact ⟨_, _, _, rfl, HT.out, Nat.le_refl _, hb⟩
end Go.Proofs.YthpgkldpbbajfaaGreat
