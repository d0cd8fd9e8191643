/- carry.Levels, Len, Bucket at entries. -/
import Derived.Test.YtpebefcmloablaaAdd
namespace Go.Proofs.Ytpebefcmloablaa
open Go.RowKit Go.Maps
set_option linter.unusedSimpArgs false
set_option linter.unusedVariables false

section
variable {W : World} {base Cb : Nat} {cv : Value} {ch : List Hdr} {N wk : Int}

set_option maxRecDepth 100000 in
set_option maxHeartbeats 1000000 in
theorem car_levels (h : CarAt W base Cb cv ch N wk) (hl : ch.length ≤ 1000000) : Calls Try.prog 69 #[.pointer (some ⟨Cb, 0, none⟩)] W fun e w' => e = .returned (.int .i64 ch.length) ∧ Below W.heap.size W w' := by
  have CN := Lib.hid (car_none h)
  have H := Lib.hid h
  clear h
  obtain ⟨av, cp, rfl, -, -, -⟩ := Rd.of_owns (enc := eHdr) H.out.row
  go_enter Try.func69, Try.ntmps69
  go_wp2_with fail
  refine CN.out.mono ?_
  rintro e w2 ⟨rfl, hb2⟩
  obtain ⟨-, c1, -⟩ := (H.out.below hb2).cell
  go_wp2
  go_ret
  exact ⟨rfl, hb2⟩

set_option maxRecDepth 100000 in
set_option maxHeartbeats 1000000 in
theorem car_len (h : CarAt W base Cb cv ch N wk) : Calls Try.prog 53 #[.pointer (some ⟨Cb, 0, none⟩)] W fun e w' => e = .returned (.int .i64 N) ∧ Below W.heap.size W w' := by
  have CN := Lib.hid (car_none h)
  have H := Lib.hid h
  clear h
  go_enter Try.func53, Try.ntmps53
  go_wp2_with fail
  refine CN.out.mono ?_
  rintro e w2 ⟨rfl, hb2⟩
  obtain ⟨-, -, c2, -⟩ := (H.out.below hb2).cell
  go_wp2
  go_ret
  exact ⟨rfl, hb2⟩

set_option maxRecDepth 100000 in
set_option maxHeartbeats 2000000 in
theorem car_bucket (h : CarAt W base Cb cv ch N wk) (hrows : RowsE W ch) (hl : ch.length ≤ 1000000) (i : Nat) (hi : i < ch.length) (hz : ch[i].2.1.length ≤ 1000000) : Calls Try.prog 70 #[.pointer (some ⟨Cb, 0, none⟩), .int .i64 i] W fun e w' =>
    ∃ v, e = .returned v ∧ w'.ownsRow W.heap.size 86 2 v ch[i].2.1.length (ch[i].2.1.flatMap eEnt) ∧ Below W.heap.size W w' := by
  have CN := Lib.hid (car_none h)
  have H := Lib.hid h
  clear h
  obtain ⟨av, cp, rfl, -, -, -⟩ := Rd.of_owns (enc := eHdr) H.out.row
  obtain ⟨g, cp', e9, hg1, hg2, -, -⟩ := ownRow_at H.out.row (by omega)
  injection e9 with e9 _ e10
  subst e9 e10
  have HRD := Lib.hid (fun W' (hb : Below W.heap.size W W') => (hrows _ (List.getElem_mem hi)).1.rdk.below hb)
  have HZ := Lib.hid (fun W' (hb : Below W.heap.size W W') => (show W'.cell? ⟨g, i, none⟩ = some (eHdr ch[i]) by
    have := ((H.out.below hb).row).cellAt i (by omega)
    rw [List.getElem?_map, List.getElem?_eq_getElem hi] at this
    exact this))
  unfold eHdr at HZ
  clear hrows
  have hii : (i : Int) < (ch.length : Int) := by omega
  generalize ch[i] = hd at *
  obtain ⟨ai, li, ci⟩ := hd
  simp only at HRD HZ hz ⊢
  have d1 : decide ((i : Int) < 0) = false := by simp
  have d2 : decide ((ch.length : Int) ≤ (i : Int)) = false := by simp only [decide_eq_false_iff_not]; omega
  go_enter Try.func70, Try.ntmps70
  go_wp2_with fail
  refine CN.out.mono ?_
  rintro e w2 ⟨rfl, hb2⟩
  obtain ⟨-, c1, -⟩ := (H.out.below hb2).cell
  have z2 := HZ.out w2 hb2
  have CL := Lib.hid (cloneEnt ai li li.length ci w2 rfl (HRD.out w2 hb2) hz)
  go_wp2_with fail
  refine CL.out.mono ?_
  rintro e w3 ⟨v3, rfl, hown, hb3⟩
  have HO := Lib.hid (rowMono hown hb2.size)
  go_wp2
  go_ret
  exact ⟨_, rfl, HO.out, hb2.trans (hb3.mono hb2.size)⟩
end

end Go.Proofs.Ytpebefcmloablaa
