/- low: container/heap.up over the queue. -/
import Derived.Test.YtggfdlanobndjaaGreatLwK
import Derived.Test.YtggfdlanobndjaaGreatHqP
namespace Go.Proofs.YtggfdlanobndjaaGreat
open Go.RowKit Go.Sort Go.Shelf Go.Lib Go.Maps
attribute [local irreducible] wpQuiet
set_option linter.unusedSimpArgs false
set_option linter.unusedVariables false

theorem swL_row (f : Qf) {n i k : Nat} (hi : i < (qrow f n).length) (hk : k < (qrow f n).length) : swL (qrow f n) i k hi hk = qrow (swp f i k) n := by
  have hi' : i < n := by simpa [qrow] using hi
  have hk' : k < n := by simpa [qrow] using hk
  unfold swL
  refine List.ext_getElem (by simp [qrow]) fun m h1 h2 => ?_
  have hm : m < n := by simpa [qrow] using h2
  simp only [List.getElem_set, qrow, List.getElem_map, List.getElem_range]
  unfold swp
  by_cases e1 : k = m
  · subst e1
    by_cases e2 : k = i
    · subst e2; simp
    · rw [if_pos rfl, if_neg e2, if_pos rfl]
  · rw [if_neg e1]
    by_cases e2 : i = m
    · subst e2; simp
    · rw [if_neg e2, if_neg (fun h => e2 h.symm), if_neg (fun h => e1 h.symm)]
/-- the nodes that a queue may hold -/
def QNod (R : List Pt) (YS : List Nat) (q : List Nat) : Prop := ∀ k ∈ q, k < (nds R.length).length ∧ bst (nds R.length) YS k ≠ none

set_option maxRecDepth 100000 in
set_option maxHeartbeats 4000000 in
theorem que_up {w : World} {lo hi tb fb qb base n : Nat} {cnt : Int} {R : List Pt} {gone : List Bool} {YS : List Nat} {V : HepV} {qv : Value} (f : Qf) (hA : LptAt w lo hi tb fb R (bst (nds R.length) YS) cnt V) (hW : CscWF R gone YS) (hR : R.length ≤ 20000) (hhi : hi ≤ base) (H : QuAt w tb qb base (qrow f n) qv) (hn : n ≤ 1000000) (hQ : QNod R YS (qrow f n)) (j0 : Nat) (hj0 : j0 < n) :
    Calls Tryz.prog 96 #[.iface 128 (.pointer (some ⟨qb, 0, none⟩)), .int .i64 j0] w fun e w' => e = .returned (.tuple #[]) ∧ QuAt w' tb qb base (qrow (upF (lbQ R (nds R.length) YS) f j0) n) qv ∧ KpS (fun g => qv.ownBlock = some g) w w' := by
  have mL := rch_Less qb
  have mS := rch_Swap qb
  have eL := ent_qLess
  have eS := ent_qSwap
  have HA := Lib.hid hA
  have HW := Lib.hid hW
  have HH := Lib.hid H
  have HQ := Lib.hid hQ
  clear hA hW H hQ
  generalize hlb : lbQ R (nds R.length) YS = lb at *
  have HLB := Lib.hid hlb
  clear hlb
  go_enter Tryz.func96, Tryz.ntmps96
  go_wp2
  go_loopw [1] (fun iv wr => ∃ (j : Nat) (g : Qf), iv = .int .i64 j ∧ j < n ∧ Hid (upF lb g j = upF lb f j0) ∧ Hid (QuAt wr tb qb base (qrow g n) qv) ∧ Hid (QNod R YS (qrow g n)) ∧ Hid (KpS (fun b => qv.ownBlock = some b) w wr)) (fun iv _ => (intOf iv).toNat)
  case atStart => exact ⟨j0, f, rfl, hj0, rfl, HH, HQ, Lib.hid (KpS.refl _ _)⟩
  case round =>
    obtain ⟨j, g, rfl, hj, HU, HQr, HNr, HKr⟩ := hrel
    by_cases hz : j = 0
    · subst hz
      have HFIN : Hid (QuAt wr tb qb base (qrow (upF lb f j0) n) qv ∧ KpS (fun b => qv.ownBlock = some b) w wr) := by
        refine ⟨?_, HKr.out⟩
        rw [← HU.out]
        unfold upF
        exact HQr.out
      go_wp2
      go_end0
      exact ⟨rfl, HFIN.out.1, HFIN.out.2⟩
    · have hp := par_lt (j := j) (by omega)
      have hql : (qrow g n).length = n := by simp [qrow]
      have hpj : par j < n := by omega
      have hquo : Int.tdiv ((j : Int) - 1) 2 = ((par j : Nat) : Int) := by
        unfold par
        rw [Int.tdiv_eq_ediv_of_nonneg (by omega)]
        omega
      have e1 : (((par j : Nat) : Int) == (j : Int)) = false := by simp; omega
      have e2 : decide (((par j : Nat) : Int) = (j : Int)) = false := by simp; omega
      have hAr := HA.out.kept HKr.out (fun k h1 h2 h3 => by have := (HH.out.row.lt k h3).1; omega)
      have CL := Lib.hid (que_less hAr HW.out hR HQr.out (by omega) (fun k hk => (HNr.out k hk).1) (fun k hk => (HNr.out k hk).2) j (par j) (by omega) (by omega))
      have CS := Lib.hid (fun W (H : QuAt W tb qb base (qrow g n) qv) => que_swap H (by omega) (par j) j (by omega) (by omega))
      have HRW : Hid (swL (qrow g n) (par j) j (by omega) (by omega) = qrow (swp g (par j) j) n) := swL_row g _ _
      have e3 : (qrow g n)[j]'(by omega) = g j := by simp [qrow]
      have e4 : (qrow g n)[par j]'(by omega) = g (par j) := by simp [qrow]
      rw [e3, e4, HLB.out] at CL
      rw [HRW.out] at CS
      have HUP : Hid (upF lb g j = if 0 < j ∧ lb (g j) (g (par j)) = true then upF lb (swp g (par j) j) (par j) else g) := by
        show _ = _
        conv => lhs; unfold upF
        split <;> rfl
      have HNS : Hid (QNod R YS (qrow (swp g (par j) j) n)) := fun k hk => HNr.out k ((swp_perm g hpj hj).mem_iff.1 hk)
      clear e3 e4 HRW hAr hql
      generalize lb (g j) (g (par j)) = b at *
      generalize par j = pj at *
      cases b with
      | false =>
        have hup := HUP.out
        rw [if_neg (by simp)] at hup
        go_wp2_with fail
        refine CL.out.mono ?_
        rintro e w2 ⟨rfl, hb2⟩
        have HFIN : Hid (QuAt w2 tb qb base (qrow (upF lb f j0) n) qv ∧ KpS (fun b => qv.ownBlock = some b) w w2) := by
          refine ⟨?_, HKr.out.below hb2⟩
          rw [← HU.out, hup]
          exact HQr.out.below hb2
        clear hup hb2 CL
        go_wp2
        go_end0
        exact ⟨rfl, HFIN.out.1, HFIN.out.2⟩
      | true =>
        have hup := HUP.out
        rw [if_pos ⟨by omega, rfl⟩] at hup
        have HUU : Hid (upF lb (swp g pj j) pj = upF lb f j0) := by show _ = _; rw [← hup]; exact HU.out
        clear hup
        go_wp2_with fail
        refine CL.out.mono ?_
        rintro e w2 ⟨rfl, hb2⟩
        have HQ2 := Lib.hid (HQr.out.below hb2)
        have HK2 := Lib.hid (HKr.out.below hb2)
        clear hb2 CL
        go_wp2_with fail
        refine (CS.out w2 HQ2.out).mono ?_
        rintro e w3 ⟨rfl, hQ3, hK3⟩
        have HQ3 := Lib.hid hQ3
        have HK3 := Lib.hid (HK2.out.trans hK3)
        clear hQ3 hK3
        go_wp2
        exact ⟨⟨pj, _, rfl, hpj, HUU, HQ3, HNS, HK3⟩, by simp [intOf]; omega⟩
end Go.Proofs.YtggfdlanobndjaaGreat
