/- stair.Of: the skyline. -/
import Derived.Test.YtpebefcmloablaaRgt
import Derived.Test.YtpebefcmloablaaScan
namespace Go.Proofs.Ytpebefcmloablaa
open Go.RowKit Go.Maps

theorem ownsRow_mono {w : World} {base base' : Nat} {e : TypeId} {size : Nat} {v : Value} {n : Nat} {xs : List Value} (h : w.ownsRow base e size v n xs) (hb : base' ≤ base) : w.ownsRow base' e size v n xs := by
  obtain ⟨h1, h2⟩ := h
  refine ⟨h1, ?_⟩
  rcases h2 with h2 | ⟨g, cap, cur, hv, hg, r⟩
  · exact .inl h2
  · exact .inr ⟨g, cap, cur, hv, Nat.le_trans hb hg, r⟩

theorem unl_iff (l : List Pt) : unl l = true ↔ (ids l).Nodup := by simp [unl]
theorem unl_no (l : List Pt) : unl l = false ↔ ¬ (ids l).Nodup := by simp [unl]

set_option maxRecDepth 100000 in
set_option maxHeartbeats 2000000 in
theorem of_no (a : Option Addr) (l : List Pt) (n c : Nat) (w : World) (hn : l.length = n) (h : RdK ePt 3 w a l) (hl : n ≤ 1000000) (hw : wfI l) (hu : unl l = false) :
    Calls Try.prog 15 #[.slice a n c] w fun e w' => e = .returned (.tuple #[.slice none 0 0, .int .i64 2]) ∧ Below w.heap.size w w' := by
  subst hn
  have HR := Lib.hid h
  have HW := Lib.hid hw
  clear h hw
  go_enter Try.func15, Try.ntmps15
  go_wp2_with fail
  refine (unlike_calls w.heap.size 1 [(a, l, c)] _ (by simp) (lsts_one c 22 HR.out) (by rw [allP_one]; exact hl) (by simp) (by rw [allP_one]; exact HW.out)).mono ?_
  rw [allP_one, hu]
  rintro e w1 ⟨rfl, hb1⟩
  go_wp2
  go_ret2
  exact ⟨rfl, ((Below.refl _ w).alloc (Nat.le_refl _) _).trans (hb1.mono (by simp))⟩

set_option maxRecDepth 100000 in
set_option maxHeartbeats 2000000 in
theorem of_yes (a : Option Addr) (l : List Pt) (n c : Nat) (w : World) (hn : l.length = n) (h : RdK ePt 3 w a l) (hl : n ≤ 1000000) (hw : wfI l) (hu : unl l = true) :
    Calls Try.prog 15 #[.slice a n c] w fun e w' => ∃ v, e = .returned (.tuple #[v, .int .i64 0]) ∧ w'.ownsRow w.heap.size 33 3 v (skyOf l).length ((skyOf l).flatMap ePt) ∧ Below w.heap.size w w' := by
  subst hn
  have HR := Lib.hid h
  have HW := Lib.hid hw
  have hnd := (unl_iff l).1 hu
  have HND := Lib.hid hnd
  have hsl : (srtX l).length = l.length := (srtX_perm l).length_eq
  have hsk : scanF (srtX l) = skyOf l := scanF_sky _ (srtX_sorted hnd)
  have HS := Lib.hid hsk
  clear h hw hnd hsk
  go_enter Try.func15, Try.ntmps15
  go_wp2_with fail
  refine (unlike_calls w.heap.size 1 [(a, l, c)] _ (by simp) (lsts_one c 22 HR.out) (by rw [allP_one]; exact hl) (by simp) (by rw [allP_one]; exact HW.out)).mono ?_
  rw [allP_one, hu]
  rintro e w1 ⟨rfl, hb1⟩
  have B1 : Below w.heap.size w w1 := ((Below.refl _ w).alloc (Nat.le_refl _) _).trans (hb1.mono (by simp))
  go_wp2_with fail
  refine (clonePts a l l.length c w1 rfl (HR.out.below B1) hl).mono ?_
  rintro e w2 ⟨v, rfl, hown2, hb2⟩
  have B2 := B1.trans (hb2.mono B1.size)
  have S1 := B1.size
  have S2 := hb2.size
  obtain ⟨a2, c2, rfl, _, _, _⟩ := RdK.of_owns ePt_len (by decide) hown2
  go_wp2_with fail
  refine (sortPtsV rfl (by omega) hown2 HND.out S2).mono ?_
  rintro e w3 ⟨rfl, hown3, hb3⟩
  have B3 := B2.trans (hb3.mono S1)
  have hr3 : RdK ePt 3 w3 a2 (srtX l) := by
    obtain ⟨a3, c3, e3, _, _, hr3⟩ := RdK.of_owns ePt_len (by decide) hown3
    injection e3 with e4 _ _
    exact e4 ▸ hr3
  go_wp2_with fail
  refine (scan_calls hsl hr3 hl).mono ?_
  rw [HS.out]
  rintro e w4 ⟨v4, rfl, hown4, hb4⟩
  have B4 := B3.trans (hb4.mono B3.size)
  go_wp2
  go_ret2
  exact ⟨_, rfl, ownsRow_mono hown4 B3.size, B4⟩

end Go.Proofs.Ytpebefcmloablaa
