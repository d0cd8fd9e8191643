/- Several texts in one: Bld, CsM. -/
import Derived.Test.YtggfdlanobndjaaGreatQ5
import Derived.Deep.CutBlock
import Derived.Deep.CutRange
import Derived.Deep.LoopGhost

/- cascade.Build. -/
namespace Go.Proofs.YtggfdlanobndjaaGreat
open Go.RowKit Go.Sort Go.Shelf Go.Lib Go.Maps
attribute [local irreducible] wpQuiet
attribute [local go_sem] Oper.still1
set_option linter.unusedSimpArgs false
set_option linter.unusedVariables false

set_option maxRecDepth 100000 in
set_option maxHeartbeats 4000000 in
theorem casc_build_bad (a : Option Addr) (c : Nat) (l : List Pt) (w : World) (hl : RdK ePt 3 w a l) (hn : l.length ≤ 40000) (hw : wfN l) (hu : unl l = false) :
    Calls Tryz.prog 27 #[.slice a l.length c] w fun e w' => e = .returned (.tuple #[.pointer none, .int .i64 2]) ∧ Below w.heap.size w w' := by
  have CU := casc_unlike a c l w hl (by omega) hw
  rw [hu] at CU
  obtain ⟨n, hnn⟩ : ∃ n, n = l.length := ⟨_, rfl⟩
  rw [← hnn] at hn CU ⊢
  clear hnn hl
  have d1 : decide ((n : Int) > 2147483648) = false := by simp; omega
  have d2 : decide ((2147483648 : Int) < (n : Int)) = false := by simp; omega
  have d3 : decide (2147483648 < n) = false := by simp; omega
  go_enter Tryz.func27, Tryz.ntmps27
  go_wp2_with (go_at_call 63; refine CU.mono ?_; rintro e w1 ⟨rfl, hb⟩)
  go_ret2
  exact ⟨rfl, hb⟩

set_option maxRecDepth 100000 in
set_option maxHeartbeats 4000000 in
theorem casc_build (a : Option Addr) (c : Nat) (l : List Pt) (w : World) (hl : RdK ePt 3 w a l) (hn : l.length ≤ 20000) (hw : wfN l) (hu : unl l = true) :
    Calls Tryz.prog 27 #[.slice a l.length c] w fun e w' => ∃ tb fb V, e = .returned (.tuple #[.pointer (some ⟨tb, 0, none⟩), .int .i64 0]) ∧ CscAt w' w.heap.size w'.heap.size tb fb (srtX l) (List.replicate (srtX l).length false) (ysOf (srtX l)) V ∧ Below w.heap.size w w' := by
  have CU := casc_unlike a c l w hl (by omega) hw
  rw [hu] at CU
  have HL := Lib.hid hl
  obtain ⟨n, hnn⟩ : ∃ n, n = l.length := ⟨_, rfl⟩
  have CC := Lib.hid (fun W (hb : Below w.heap.size w W) => clonePts a l n c W hnn.symm (hl.below hb) (by omega))
  have HNN := Lib.hid hnn
  rw [← hnn] at hn CU ⊢
  have CF := Lib.hid (fun W => frame_new n (by omega) W)
  clear hnn hl
  have d1 : decide ((n : Int) > 2147483648) = false := by simp; omega
  have d2 : decide ((2147483648 : Int) < (n : Int)) = false := by simp; omega
  have d3 : decide (2147483648 < n) = false := by simp; omega
  go_enter Tryz.func27, Tryz.ntmps27
  go_wp2_with (go_at_call 63; refine CU.mono ?_; rintro e w1 ⟨rfl, hb1⟩; clear CU)
  go_wp2_with fail
  refine (CF.out w1).mono ?_
  rintro e w2 ⟨rfl, ew2⟩
  have HB2 : Hid (Below w.heap.size w w2) := by rw [ew2]; exact hb1.alloc hb1.size _
  have HF2 : Hid (w2.heap[w1.heap.size]? = some (oFrm 0 0 (.slice none 0 0) n)) := by rw [ew2]; exact lit0 w1 _
  obtain ⟨fb, hfb⟩ : ∃ fb, fb = w1.heap.size := ⟨_, rfl⟩
  have hfb2 : w.heap.size ≤ fb ∧ fb < w2.heap.size := by rw [ew2, hfb]; exact ⟨hb1.size, by simp⟩
  rw [← hfb] at HF2 ⊢
  clear ew2 hb1 hfb CF
  go_upto_region 8 with fail
  go_cut [6] from 6 (fun v6 wx => ∃ tb rv gv nv fv, v6 = .pointer (some ⟨tb, 0, none⟩) ∧ Hid (BldR wx w.heap.size fb n rv gv nv fv l) ∧ Hid (wx.heap[tb]? = some (cscB rv (.slice none 0 0) gv fb nv (.slice none 0 0) (.slice none 0 0) n)) ∧ Hid (Below w.heap.size w wx) ∧ w.heap.size ≤ tb)
  case first =>
    have hmk := mk_bools n (by omega)
    have fin : ∀ (w5 : World) rv gv nv fv, w5.ownsRow w.heap.size 34 3 rv n (l.flatMap ePt) → w5.ownsRow w.heap.size 4 1 gv n ((List.replicate n false).map Value.bool) → w5.ownsRow w.heap.size 119 7 fv (nds n).length ((nds n).flatMap eNd) → w5.ownsRow w.heap.size 119 7 nv (nds n).length ((nds n).flatMap eNd) → w5.heap[fb]? = some (oFrm 1 0 fv n) → Below w.heap.size w w5 →
        BldR (w5.alloc (.cells #[rv, .slice none 0 0, gv, .pointer (some ⟨fb, 0, none⟩), nv, .slice none 0 0, .slice none 0 0, .int .i64 n] 110)) w.heap.size fb n rv gv nv fv l ∧ (w5.alloc (.cells #[rv, .slice none 0 0, gv, .pointer (some ⟨fb, 0, none⟩), nv, .slice none 0 0, .slice none 0 0, .int .i64 n] 110)).heap[w5.heap.size]? = some (cscB rv (.slice none 0 0) gv fb nv (.slice none 0 0) (.slice none 0 0) n) ∧ Below w.heap.size w (w5.alloc (.cells #[rv, .slice none 0 0, gv, .pointer (some ⟨fb, 0, none⟩), nv, .slice none 0 0, .slice none 0 0, .int .i64 n] 110)) := fun w5 rv gv nv fv h1 h2 h3 h4 h5 h6 =>
      ⟨(BldR.mk h1 h2 ⟨h5, h3⟩ hfb2.1 h4).kept ((KpS.refl (fun _ => False) w5).alloc _) (fun k _ h => h.elim), lit0 w5 _, h6.alloc h6.size _⟩
    have FIN := Lib.hid fin
    clear fin
    refine wp_region_head (fun W => True) [1, 4, 7, 10, 11, 12] [(0, false), (2, false), (3, false), (5, false), (6, false), (8, false), (9, false)] (by kernel_rfl) (by kernel_rfl) (fun _ _ d _ _ h => by cases d <;> exact h) trivial 6 rfl (by kernel_rfl) ?_
    simp only [pickB, List.filterMap_cons, List.filterMap_nil, List.getElem?_toArray, List.getElem?_cons_succ, List.getElem?_cons_zero, Option.map_some]
    repeat (refine wpHd_step (fun K hK => ?_); go_simp; first | (refine hK _ ?_; clear hK K) | (apply Exists.intro; refine ⟨fun _ => ?_, hK _ ?_⟩; rfl; clear hK K))
    refine wpHd_nil ?_
    have hb2d : Below w.heap.size w w2.drew := HB2.out.drew
    have hf2d : w2.drew.heap[fb]? = some (oFrm 0 0 (.slice none 0 0) n) := HF2.out
    have hs2d : w2.drew.heap.size = w2.heap.size := rfl
    refine wpAnyT_ready [1, 4] (by kernel_rfl) (by simp) ?_
    refine AllReadyT.cons rfl (fun K hK => ?_) (AllReadyT.cons rfl (fun K hK => ?_) AllReadyT.nil)
    · -- Clone first
      refine step_call ent_clonePts rfl _ _ rfl (vals := #[.slice a n c]) rfl (CC.out w2.drew hb2d) ?_
      rintro e w3 ⟨rv, rfl, hr, hbC⟩
      refine ⟨_, rfl, hK _ _ (fun _ _ => trivial) ?_⟩
      clear hK K
      have hf3 : w3.heap[fb]? = some (oFrm 0 0 (.slice none 0 0) n) := (hbC.block fb (by omega)).trans hf2d
      have hb3 : Below w.heap.size w w3 := hb2d.trans (hbC.mono hb2d.size)
      have hr3 := rowMono hr hb2d.size
      have hs3 := hbC.size
      have FF3 := Lib.hid hf3
      have BB3 := Lib.hid hb3
      have RR3 := Lib.hid hr3
      obtain ⟨ra, rc, rfl⟩ := rowV hr3
      clear hr hbC hb2d hf2d hf3 hb3 hr3
      refine wpAnyT_ready [4, 7] (by kernel_rfl) (by simp) ?_
      refine AllReadyT.cons rfl (fun K hK => ?_) (AllReadyT.cons rfl (fun K hK => ?_) AllReadyT.nil)
      · go_simp
        refine hK _ _ (fun _ _ => trivial) ?_
        clear hK K
        refine wpAnyT_ready [7] (by kernel_rfl) (by simp) ?_
        refine AllReadyT.cons rfl (fun K hK => ?_) AllReadyT.nil
        have hf4 : (w3.alloc (.cells (madeCells #[.bool false] n) 4)).heap[fb]? = some (oFrm 0 0 (.slice none 0 0) n) := (Below.heap_alloc _ _ _ (by omega)).trans FF3.out
        refine step_call ent_fnodes rfl _ _ rfl (vals := #[.pointer (some ⟨fb, 0, none⟩)]) rfl (frame_nodes_first fb n (by omega) _ hf4) ?_
        rintro e w5 ⟨fv, nv, rfl, hfr, hnr, hfb5, hKN⟩
        refine ⟨_, rfl, hK _ _ (fun _ _ => trivial) ?_⟩
        clear hK K
        have hb4 : Below w.heap.size w (w3.alloc (.cells (madeCells #[.bool false] n) 4)) := BB3.out.alloc BB3.out.size _
        have hb5 : Below w.heap.size w w5 := hb4.trans (hKN.toBelow hb4.size (fun k h => by omega))
        have F := FIN.out w5 _ (.slice (some ⟨w3.heap.size, 0, none⟩) n n) nv fv (rowN (ownsRow_below RR3.out ((Below.refl _ _).alloc (Nat.le_refl _) _)) (by decide) hf4 hKN) (rowN (row_bools w3 w.heap.size n BB3.out.size (by omega)) (by decide) hf4 hKN) (rowMono hfr hb4.size) (rowMono hnr hb4.size) hfb5 hb5
        have HF := Lib.hid F
        have hs5 := hb5.size
        obtain ⟨na, nc, rfl⟩ := rowV hnr
        clear F hfr hnr hfb5 hKN hb4 hb5 hf4
        refine wpAnyT_line [10, 11, 12] _ _ _ (by kernel_rfl) ?_
        simp only [pick, List.filterMap_cons, List.filterMap_nil, List.getElem?_toArray, List.getElem?_cons_succ, List.getElem?_cons_zero]
        go_wp2
        go_meet
        exact ⟨_, _, _, _, _, rfl, HF.out.1, HF.out.2.1, HF.out.2.2, hs5⟩
      · refine step_call ent_fnodes rfl _ _ rfl (vals := #[.pointer (some ⟨fb, 0, none⟩)]) rfl (frame_nodes_first fb n (by omega) _ FF3.out) ?_
        rintro e w5 ⟨fv, nv, rfl, hfr, hnr, hfb5, hKN⟩
        refine ⟨_, rfl, hK _ _ (fun _ _ => trivial) ?_⟩
        clear hK K
        have hb5 : Below w.heap.size w w5 := BB3.out.trans (hKN.toBelow BB3.out.size (fun k h => by omega))
        have hb6 : Below w.heap.size w (w5.alloc (.cells (madeCells #[.bool false] n) 4)) := hb5.alloc hb5.size _
        have hal : Below w5.heap.size w5 (w5.alloc (.cells (madeCells #[.bool false] n) 4)) := (Below.refl _ _).alloc (Nat.le_refl _) _
        have hf5l := (Array.getElem?_eq_some_iff.1 hfb5).1
        have F := FIN.out (w5.alloc (.cells (madeCells #[.bool false] n) 4)) _ (.slice (some ⟨w5.heap.size, 0, none⟩) n n) nv fv (ownsRow_below (rowN RR3.out (by decide) FF3.out hKN) hal) (row_bools w5 w.heap.size n hb5.size (by omega)) (ownsRow_below (rowMono hfr BB3.out.size) hal) (ownsRow_below (rowMono hnr BB3.out.size) hal) ((Below.heap_alloc _ _ _ hf5l).trans hfb5) hb6
        have hsz : (w5.alloc (.cells (madeCells #[.bool false] n) 4)).heap.size = w5.heap.size + 1 := by simp
        rw [hsz] at F
        have HF := Lib.hid F
        have hs5 := hb6.size
        rw [hsz] at hs5
        obtain ⟨na, nc, rfl⟩ := rowV hnr
        clear F hfr hnr hfb5 hKN hb5 hb6 hal
        refine wpAnyT_line [4, 10, 11, 12] _ _ _ (by kernel_rfl) ?_
        simp only [pick, List.filterMap_cons, List.filterMap_nil, List.getElem?_toArray, List.getElem?_cons_succ, List.getElem?_cons_zero]
        go_wp2
        go_meet
        exact ⟨_, _, _, _, _, rfl, HF.out.1, HF.out.2.1, HF.out.2.2, hs5⟩
    · -- makeSlice first
      go_simp
      refine hK _ _ (fun _ _ => trivial) ?_
      clear hK K
      refine wpAnyT_ready [1] (by kernel_rfl) (by simp) ?_
      refine AllReadyT.cons rfl (fun K hK => ?_) AllReadyT.nil
      have hb3 : Below w.heap.size w (w2.alloc (.cells (madeCells #[.bool false] n) 4)).drew := (HB2.out.alloc HB2.out.size _).drew
      have hf3 : (w2.alloc (.cells (madeCells #[.bool false] n) 4)).drew.heap[fb]? = some (oFrm 0 0 (.slice none 0 0) n) := (Below.heap_alloc w2 _ _ hfb2.2).trans HF2.out
      have hg3 : (w2.alloc (.cells (madeCells #[.bool false] n) 4)).drew.ownsRow w.heap.size 4 1 (.slice (some ⟨w2.heap.size, 0, none⟩) n n) n ((List.replicate n false).map Value.bool) := row_bools w2 w.heap.size n HB2.out.size (by omega)
      have hs3 : fb < (w2.alloc (.cells (madeCells #[.bool false] n) 4)).drew.heap.size := by
        show fb < (w2.alloc (.cells (madeCells #[.bool false] n) 4)).heap.size
        simp; omega
      obtain ⟨w3, ew3⟩ : ∃ w3, w3 = (w2.alloc (.cells (madeCells #[.bool false] n) 4)).drew := ⟨_, rfl⟩
      rw [← ew3] at hb3 hf3 hg3 hs3
      refine step_call ent_clonePts rfl _ _ rfl (vals := #[.slice a n c]) rfl (by rw [← ew3]; exact CC.out w3 hb3) ?_
      rintro e w4 ⟨rv, rfl, hr, hbC⟩
      refine ⟨_, rfl, hK _ _ (fun _ _ => trivial) ?_⟩
      clear hK K
      have hf4 : w4.heap[fb]? = some (oFrm 0 0 (.slice none 0 0) n) := (hbC.block fb hs3).trans hf3
      have hb4 : Below w.heap.size w w4 := hb3.trans (hbC.mono hb3.size)
      have hr4 := rowMono hr hb3.size
      have hg4 := ownsRow_below hg3 hbC
      have FF4 := Lib.hid hf4
      have BB4 := Lib.hid hb4
      have RR4 := Lib.hid hr4
      have GG4 := Lib.hid hg4
      obtain ⟨ra, rc, rfl⟩ := rowV hr4
      clear hr hbC hb2d hf2d hf4 hb4 hr4 hf3 hb3 hg3 hg4 hs3 ew3
      refine wpAnyT_ready [7] (by kernel_rfl) (by simp) ?_
      refine AllReadyT.cons rfl (fun K hK => ?_) AllReadyT.nil
      refine step_call ent_fnodes rfl _ _ rfl (vals := #[.pointer (some ⟨fb, 0, none⟩)]) rfl (frame_nodes_first fb n (by omega) _ FF4.out) ?_
      rintro e w5 ⟨fv, nv, rfl, hfr, hnr, hfb5, hKN⟩
      refine ⟨_, rfl, hK _ _ (fun _ _ => trivial) ?_⟩
      clear hK K
      have hb5 : Below w.heap.size w w5 := BB4.out.trans (hKN.toBelow BB4.out.size (fun k h => by omega))
      have F := FIN.out w5 _ (.slice (some ⟨w2.heap.size, 0, none⟩) n n) nv fv (rowN RR4.out (by decide) FF4.out hKN) (rowN GG4.out (by decide) FF4.out hKN) (rowMono hfr BB4.out.size) (rowMono hnr BB4.out.size) hfb5 hb5
      have HF := Lib.hid F
      have hs5 := hb5.size
      obtain ⟨na, nc, rfl⟩ := rowV hnr
      clear F hfr hnr hfb5 hKN hb5
      refine wpAnyT_line [10, 11, 12] _ _ _ (by kernel_rfl) ?_
      simp only [pick, List.filterMap_cons, List.filterMap_nil, List.getElem?_toArray, List.getElem?_cons_succ, List.getElem?_cons_zero]
      go_wp2
      go_meet
      exact ⟨_, _, _, _, _, rfl, HF.out.1, HF.out.2.1, HF.out.2.2, hs5⟩
  case rest =>
    obtain ⟨tb, rv, gv, nv, fv, rfl, HR, HT, HB, htb⟩ := hcut
    clear HB2 HF2 CC
    obtain ⟨ra, rc, rfl⟩ := rowV HR.out.row
    have htl := (Array.getElem?_eq_some_iff.1 HT.out).1
    have huu : (ids l).Nodup := by unfold unl at hu; simpa using hu
    have CS := Lib.hid (sortPtsXK HNN.out.symm (by omega) HR.out.row huu)
    have htc := HT.out
    have c0 : wc.cell? ⟨tb, 0, none⟩ = some (.slice ra n rc) := by simp [World.cell?, htc]
    clear htc
    go_wp2_with fail
    refine CS.out.mono ?_
    rintro e w4 ⟨rfl, hr4, hk4⟩
    have hR4 : BldR w4 w.heap.size fb n (.slice ra n rc) gv nv fv (srtX l) := by
      have h := HR.out
      have hp : ∀ k, k < wc.heap.size → (Value.slice ra n rc).ownBlock = some k → ∃ cs t fr, wc.heap[k]? = some (.cells cs t fr) ∧ t = 34 := fun k hk he => by
        rcases h.row.2 with ⟨e9, -⟩ | ⟨g, cap, cur, e9, -, hh, -⟩
        · rw [e9] at he; cases he
        · rw [e9] at he
          injection he with he
          subst he
          exact ⟨_, _, _, hh, rfl⟩
      refine ⟨hr4, rowE h.gon hk4 fun k h1 h2 => ?_, ⟨blkK hk4 h.frm.blk fun h2 => ?_, rowE h.frm.row hk4 fun k h1 h2 => ?_⟩, h.lof, rowE h.nod hk4 fun k h1 h2 => ?_⟩
      · obtain ⟨cs, t, fr, a, rfl⟩ := hp k h1 h2; exact ⟨cs, _, fr, a, by decide⟩
      · obtain ⟨cs, t, fr, a, rfl⟩ := hp fb (Array.getElem?_eq_some_iff.1 h.frm.blk).1 h2
        have h9 := a.symm.trans h.frm.blk
        injection h9 with h9
        injection h9 with _ h9 _
        exact absurd h9 (by decide)
      · obtain ⟨cs, t, fr, a, rfl⟩ := hp k h1 h2; exact ⟨cs, _, fr, a, by decide⟩
      · obtain ⟨cs, t, fr, a, rfl⟩ := hp k h1 h2; exact ⟨cs, _, fr, a, by decide⟩
    have HT4 : Hid (w4.heap[tb]? = some (cscB (.slice ra n rc) (.slice none 0 0) gv fb nv (.slice none 0 0) (.slice none 0 0) n)) := blkK hk4 HT.out (fun h => row_ne HR.out.row HT.out (by decide) tb h rfl)
    have HB4 : Hid (Below w.heap.size w w4) := HB.out.trans (hk4.toBelow HB.out.size (fun k h => (HR.out.row.lt k h).1))
    have HR4 := Lib.hid hR4
    have hRl : (srtX l).length = n := by rw [(srtX_perm l).length_eq]; exact HNN.out.symm
    have hRu : (ids (srtX l)).Nodup := ((srtX_perm l).map _).nodup_iff.2 huu
    have HRS : Hid ((srtX l).Pairwise ltX ∧ (ids (srtX l)).Nodup) := ⟨srtX_sorted huu, hRu⟩
    have HWF : Hid (wfN (srtX l)) := fun p hp => hw p ((srtX_mem l p).1 hp)
    clear hr4 hk4 hR4 HR HT HB CS hRu c0 htl
    generalize hRR : srtX l = R at *
    have HRR : Hid (srtX l = R) := hRR
    clear hRR
    have htl := (Array.getElem?_eq_some_iff.1 HT4.out).1
    have htc := HT4.out
    have c0 : w4.cell? ⟨tb, 0, none⟩ = some (.slice ra n rc) := by simp [World.cell?, htc]
    clear htc
    go_wp2_with fail
    go_loopg [52] n (fun kx s52 wr => ∃ (i : Nat) (xv : Value), s52 = .int .i64 i ∧ i ≤ n ∧ n - i ≤ kx ∧ Hid (wr.heap[tb]? = some (cscB (.slice ra n rc) xv gv fb nv (.slice none 0 0) (.slice none 0 0) n)) ∧ Hid (wr.ownsRow w4.heap.size 2 1 xv i (((xsR R).take i).map (Value.int .i64))) ∧ Hid (KpS (fun k => k = tb) w4 wr))
    case atStart => exact ⟨0, _, rfl, Nat.zero_le _, by omega, HT4, World.ownsRow_nil _ _ _ _, KpS.refl _ _⟩
    case round =>
      obtain ⟨i, xv, rfl, hi, hkx, HT5, HX5, HK5⟩ := hrel
      by_cases hin : i < n
      · have hrr := rowK HR4.out.row HK5.out (fun g h h2 => row_ne HR4.out.row HT4.out (by decide) g h h2.symm)
        obtain ⟨_, _, ee, -, -, hrd⟩ := RdK.of_owns ePt_len (by decide) hrr
        injection ee with e1 e2 e3
        subst e1
        clear e2 e3
        obtain ⟨b, off, ea, hbl, hcs⟩ := hrd.get (by omega)
        have x0 := hcs i (by omega) 0 (by omega)
        have x1 := hcs i (by omega) 1 (by omega)
        have x2 := hcs i (by omega) 2 (by omega)
        simp only [ePt, List.getElem?_cons_zero, List.getElem?_cons_succ, Nat.add_zero] at x0 x1 x2
        have hxt : (xsR R).take (i + 1) = (xsR R).take i ++ [R[i].1] := by
          have h : i < (xsR R).length := by unfold xsR; simp; omega
          rw [List.take_succ_eq_append_getElem h]
          simp [xsR]
        have HXT := Lib.hid hxt
        subst ea
        clear hcs hrd hxt hrr
        generalize R[i] = p at *
        obtain ⟨px, py, pi⟩ := p
        simp only at HXT x0 x1 x2
        have htc := HT5.out
        have htl5 := (Array.getElem?_eq_some_iff.1 htc).1
        obtain ⟨xa, xc, rfl⟩ := rowV HX5.out
        go_upto_region 13 with fail
        obtain ⟨w6, ew6⟩ : ∃ w6, w6 = wr.alloc (.cells #[.int .i64 px, .int .i64 py, .int .u32 pi] 34) := ⟨_, rfl⟩
        have hb6 : Below wr.heap.size wr w6 := by rw [ew6]; exact (Below.refl _ _).alloc (Nat.le_refl _) _
        have hx6 : w6.heap[wr.heap.size]? = some (.cells #[.int .i64 px, .int .i64 py, .int .u32 pi] 34 (0, 0)) := by rw [ew6]; exact lit0 wr _
        have ht6 := (hb6.block tb htl5).trans htc
        have hs45 := HK5.out.size
        have hs56 := hb6.size
        have g1 := cell_belowW (w := w6) (ad := ⟨tb, 1, none⟩) (v := .slice xa i xc) (by simp [World.cell?, ht6])
        have g2 := cell_belowW (w := w6) (ad := ⟨wr.heap.size, 0, none⟩) (v := .int .i64 px) (by simp [World.cell?, hx6])
        have HX6 := Lib.hid (ownsRow_below HX5.out hb6)
        have HK6 : Hid (KpS (fun k => k = tb) w4 w6) := HK5.out.below hb6
        have HT6 := Lib.hid ht6
        rw [← ew6]
        clear ew6 hb6 hx6 ht6 htc x0 x1 x2
        refine wp_region_head (fun W => ∃ p : BelowW w6, W = p.W) [8, 9, 10, 11] [(0, false), (1, false), (2, false), (3, false), (4, true), (5, false), (6, true)] (by kernel_rfl) (by kernel_rfl) (fun _ _ d _ _ h => by cases d <;> exact h) ⟨⟨_, (Below.refl _ _).drew⟩, rfl⟩ 5 rfl (by kernel_rfl) ?_
        simp only [pickB, List.filterMap_cons, List.filterMap_nil, List.getElem?_toArray, List.getElem?_cons_succ, List.getElem?_cons_zero, Option.map_some]
        repeat (refine wpHd_step (fun K hK => ?_); go_simp; first | (refine hK _ ?_; clear hK K) | (apply Exists.intro; refine ⟨fun _ => ?_, hK _ ?_⟩; rfl; clear hK K))
        refine wpHd_nil ?_
        refine wpAnyT_ready [7] (by kernel_rfl) (by simp) ?_
        refine AllReadyT.cons rfl (fun K hK => ?_) AllReadyT.nil
        go_simp
        refine hK _ _ (fun _ _ => ⟨⟨_, (Below.refl _ w6).alloc (Nat.le_refl _) _ |>.drew⟩, rfl⟩) ?_
        clear hK K
        refine wpAnyT_ready [8] (by kernel_rfl) (by simp) ?_
        refine AllReadyT.cons rfl (fun K hK => ?_) AllReadyT.nil
        refine step_append1E elInt64 w4.heap.size (w := (w6.alloc (.cells #[.int .i64 px] 2)).drew) (ownsRow_below HX6.out ((Below.refl _ w6).alloc (Nat.le_refl _) _ |>.drew)) [.int .i64 px] rfl (by simp [Value.oneCell']) rfl (.tmp 60) (.tmp 63) rfl rfl w6.heap.size rfl (lit0d _ _) (by unfold maxLen; omega) (by omega) (by simp; omega) ?_
        intro ga capa w8 hown8 hg8 hblk8 hlt8
        refine hK _ _ (fun _ h => absurd (by simp) h) ?_
        clear hK K
        refine wpAnyT_line [9, 10, 11] _ _ _ (by kernel_rfl) ?_
        simp only [pick, List.filterMap_cons, List.filterMap_nil, List.getElem?_toArray, List.getElem?_cons_succ, List.getElem?_cons_zero]
        have hg68 : w6.grownBy w8 (Value.slice xa i xc).ownBlock := grownBy_trans (below_asGrown ((Below.refl _ w6).alloc (Nat.le_refl _) _ |>.drew)) hg8
        have KA8 : KpS (fun k => (Value.slice xa i xc).ownBlock = some k) w6 w8 := (KpS.refl _ w6).grown hg68 (fun k hk => .inl hk)
        have hxb : ∀ g, (Value.slice xa i xc).ownBlock = some g → w4.heap.size ≤ g := fun g h => (HX6.out.lt g h).1
        have ht8 := blkK KA8 HT6.out (fun h => by have := hxb tb h; omega)
        have q8 : w8.cell? ⟨tb, 1, none⟩ = some (.slice xa i xc) := by simp [World.cell?, ht8]
        have f8 : w8.frozen? ⟨tb, 1, none⟩ = false := by simp [World.frozen?, ht8]
        have HT9 : Hid ((w8.setCell ⟨tb, 1, none⟩ (.slice (some ⟨ga, 0, none⟩) (i + 1) capa)).heap[tb]? = some (cscB (.slice (some ⟨b, off, none⟩) n rc) (.slice (some ⟨ga, 0, none⟩) (i + 1) capa) gv fb nv (.slice none 0 0) (.slice none 0 0) n)) := heap_setCell_same w8 tb 1 _ _ _ ht8
        have HX9 : Hid ((w8.setCell ⟨tb, 1, none⟩ (.slice (some ⟨ga, 0, none⟩) (i + 1) capa)).ownsRow w4.heap.size 2 1 (.slice (some ⟨ga, 0, none⟩) (i + 1) capa) (i + 1) (((xsR R).take (i + 1)).map (Value.int .i64))) := by
          have h9 := rowK (S := fun k => k = tb) hown8 ((KpS.refl (fun k => k = tb) w8).set (a := ⟨tb, 1, none⟩) (.slice (some ⟨ga, 0, none⟩) (i + 1) capa) (.inl rfl)) (fun g h h2 => by have := (hown8.lt g h).1; omega)
          show World.ownsRow _ _ _ _ _ _ _
          rw [HXT.out, List.map_append]
          exact h9
        have HK9 : Hid (KpS (fun k => k = tb) w4 (w8.setCell ⟨tb, 1, none⟩ (.slice (some ⟨ga, 0, none⟩) (i + 1) capa))) := ((HK6.out.mono (S' := fun k => k = tb ∨ w4.heap.size ≤ k) (fun k h => .inl h)).trans (KA8.mono (fun k h => .inr (hxb k h)))).strip.set (a := ⟨tb, 1, none⟩) _ (.inl rfl)
        clear KA8 hg68 hg8 hown8 ht8 g1 g2 HX6 HT6 HK6 hxb
        go_wp2
        go_roundg (n - (i + 1))
        case measure => omega
        case rel => exact ⟨i + 1, _, by go_num, by omega, Nat.le_refl _, HT9, HX9, HK9⟩
      · obtain rfl : i = n := by omega
        have hR5 : BldR wr w.heap.size fb i (.slice ra i rc) gv nv fv R := HR4.out.kept HK5.out (fun k h1 h2 => by subst h2; exact ⟨_, _, _, HT4.out, by decide, by decide, by decide, by decide⟩)
        have hB5 : Below w.heap.size w wr := HB4.out.trans (HK5.out.toBelow HB4.out.size (fun k h => by omega))
        have hX5 := HX5.out
        rw [List.take_of_length_le (by unfold xsR; simp; omega)] at hX5
        have HB5 := Lib.hid hB5
        have HR5 := Lib.hid hR5
        have hs5 := hB5.size
        have HX5' := Lib.hid (rowMono hX5 HB4.out.size)
        obtain ⟨xa, xc, rfl⟩ := rowV hX5
        clear hB5 hR5 hX5 HK5 HX5 HB4 HR4 HT4 c0 htl
        have htl := (Array.getElem?_eq_some_iff.1 HT5.out).1
        have hmm := @run_makeMap Tryz.prog
        go_upto_region 16 with fail
        obtain ⟨pm, hpm⟩ : ∃ pm, pm = wr.heap.size := ⟨_, rfl⟩
        obtain ⟨wm, ewm⟩ : ∃ wm, wm = wr.alloc (.map #[] 0) := ⟨_, rfl⟩
        have hbm : Below wr.heap.size wr wm := by rw [ewm]; exact (Below.refl _ _).alloc (Nat.le_refl _) _
        have HMm : Hid (∃ D : DataW Unit, wm.ownsMap Tryz.prog 32 (plainElem Tryz.prog 3) pm 0 D ∧ PlcAt D R 0) := by rw [ewm, hpm]; exact ⟨.map [], World.ownsMap_made _ _ _ _, [], IsM.empty _ _⟩
        have htm := (hbm.block tb htl).trans HT5.out
        have HTm := Lib.hid htm
        have HRm : Hid (BldR wm w.heap.size fb i (.slice ra i rc) gv nv fv R) := HR5.out.kept ((KpS.refl (fun _ => False) wr).below hbm) (fun k _ h => h.elim)
        have HXm := Lib.hid (ownsRow_below HX5'.out hbm)
        have HBm : Hid (Below w.heap.size w wm) := HB5.out.trans (hbm.mono hs5)
        have hpw : w.heap.size ≤ pm ∧ pm < wm.heap.size ∧ tb < pm := by rw [ewm, hpm]; simp; omega
        have c0 : wm.cell? ⟨tb, 0, none⟩ = some (.slice ra i rc) := by simp [World.cell?, htm]
        rw [← ewm, ← hpm]
        clear ewm hpm hbm htm HT5 HR5 HX5' HB5 hs5 htl hmm
        go_wp2_with fail
        go_loopg [74] i (fun kx s74 wr => ∃ (j : Nat), s74 = .int .i64 j ∧ j ≤ i ∧ i - j ≤ kx ∧ Hid (KpS (fun k => k = pm) wm wr) ∧ Hid (∃ D : DataW Unit, wr.ownsMap Tryz.prog 32 (plainElem Tryz.prog 3) pm j D ∧ PlcAt D R j))
        case atStart => exact ⟨0, rfl, Nat.zero_le _, by omega, KpS.refl _ _, HMm.out⟩
        case round =>
          obtain ⟨j, rfl, hj, hkx2, HK2, HM2⟩ := hrel
          by_cases hjn : j < i
          · have hrr := rowK HRm.out.row HK2.out (fun g h h2 => by
              subst h2
              obtain ⟨es, ck, hmb, -⟩ := HMm.out.choose_spec.1
              rcases HRm.out.row.2 with ⟨e9, -⟩ | ⟨g9, cap, cur, e9, -, hh, -⟩
              · rw [e9] at h; cases h
              · rw [e9] at h
                injection h with h
                subst h
                rw [hh] at hmb
                cases hmb)
            obtain ⟨_, _, ee, -, -, hrd⟩ := RdK.of_owns ePt_len (by decide) hrr
            injection ee with e1 e2 e3
            subst e1
            clear e2 e3
            obtain ⟨b, off, ea, hbl, hcs⟩ := hrd.get (by omega)
            have x0 := hcs j (by omega) 0 (by omega)
            have x1 := hcs j (by omega) 1 (by omega)
            have x2 := hcs j (by omega) 2 (by omega)
            simp only [ePt, List.getElem?_cons_zero, List.getElem?_cons_succ, Nat.add_zero] at x0 x1 x2
            have hjR : j < R.length := by omega
            have hkey : Hid (keyOf Tryz.prog 32 (.int .u32 R[j].2.2) = some (.int .u32 R[j].2.2)) := keyOf_int_mk Tryz.underlying32 (HWF.out _ (List.getElem_mem _))
            obtain ⟨D, hown0, hD⟩ := HM2.out
            have HD2 := Lib.hid (hD.put hjR)
            have hs2 := HK2.out.size
            subst ea
            clear hcs hrd hrr hD HM2
            generalize R[j] = p at *
            obtain ⟨px, py, pi⟩ := p
            simp only at HD2 hkey x0 x1 x2
            have hown := hown0.kept (World.grownBy_alloc wr (.cells #[.int .i64 px, .int .i64 py, .int .u32 pi] 34) none) (by simp)
            go_wp2_with (at_mapUpdate; refine wpList_mapUpdate_own _ rfl _ _ _ 69 rfl 32 3 (int_keyed Tryz.underlying32) Tryz.underlying69 _ pm j _ rfl hown (by unfold maxLen; omega) _ _ _ rfl rfl hkey.out _ [] (plainElem_int Tryz.underlying3 (by simp [Lit.wf, IntKind.min, IntKind.max, IntKind.bits, IntKind.signed]; omega)) ?_; intro w3 hown3 hgrow3)
            have HK3 : Hid (KpS (fun k => k = pm) wm w3) := ((HK2.out.alloc _).grown hgrow3 (fun k h => .inl (by injection h with h; exact h.symm)))
            have HM3 : Hid (∃ D : DataW Unit, w3.ownsMap Tryz.prog 32 (plainElem Tryz.prog 3) pm (j + 1) D ∧ PlcAt D R (j + 1)) := ⟨_, hown3, HD2.out⟩
            clear hown3 hgrow3 hown hown0 HD2
            go_wp2
            go_roundg (i - (j + 1))
            case measure => omega
            case rel => exact ⟨j + 1, by go_num, by omega, Nat.le_refl _, HK3, HM3⟩
          · obtain rfl : j = i := by omega
            obtain ⟨D0, ⟨es0, ck0, hmm0, -⟩, -⟩ := HMm.out
            have HR5 := Lib.hid (HRm.out.keptM HK2.out hmm0)
            have HX5 := Lib.hid (rowM HXm.out HK2.out hmm0)
            have HT5 : Hid (wr.heap[tb]? = _) := blkK HK2.out HTm.out (fun h => by omega)
            have HB5 : Hid (Below w.heap.size w wr) := HBm.out.trans (HK2.out.toBelow HBm.out.size (fun k h => by omega))
            obtain ⟨D, hM5, hPD⟩ := HM2.out
            have HM5 := Lib.hid hM5
            have HPD := Lib.hid hPD
            have hs5 := HB5.out.size
            have hpm5 : pm < wr.heap.size := by
              obtain ⟨es, ck, hh, -⟩ := hM5
              exact (Array.getElem?_eq_some_iff.1 hh).1
            obtain ⟨_, _, ee, -, -, hrd⟩ := RdK.of_owns ePt_len (by decide) HR5.out.row
            injection ee with e1 e2 e3
            subst e1
            clear e2 e3
            have CC2 := Lib.hid (clonePts ra R j rc wr hRl hrd (by omega))
            have htl5 := (Array.getElem?_eq_some_iff.1 HT5.out).1
            have htc := HT5.out
            have c0 : wr.cell? ⟨tb, 0, none⟩ = some (.slice ra j rc) := by simp [World.cell?, htc]
            clear htc hrd hmm0 hM5 hPD HM2 HRm HXm HTm HBm HMm HK2
            go_wp2_with fail
            refine CC2.out.mono ?_
            rintro e w7 ⟨hv, rfl, hh7, hb7⟩
            have CS2 := Lib.hid (sortPtsYK hRl (by omega) hh7 HRS.out.2)
            have HH7 := Lib.hid hh7
            have HB7 := Lib.hid hb7
            obtain ⟨ha, hc, rfl⟩ := rowV hh7
            clear hh7 hb7 CC2
            go_wp2_with fail
            refine CS2.out.mono ?_
            rintro e w8 ⟨rfl, hh8, hk8⟩
            have hb8 : Below wr.heap.size wr w8 := HB7.out.trans (hk8.toBelow HB7.out.size (fun k h => (HH7.out.lt k h).1))
            have HB8 := Lib.hid hb8
            have HH8 := Lib.hid hh8
            have HR8 : Hid (BldR w8 w.heap.size fb j (.slice ra j rc) gv nv fv R) := HR5.out.kept ((KpS.refl (fun _ => False) wr).below hb8) (fun k _ h => h.elim)
            have HX8 := Lib.hid (ownsRow_below HX5.out hb8)
            have HT8 : Hid (w8.heap[tb]? = some (cscB (.slice ra j rc) (.slice xa j xc) gv fb nv (.slice none 0 0) (.slice none 0 0) j)) := (hb8.block tb htl5).trans HT5.out
            have HM8 : Hid (w8.ownsMap Tryz.prog 32 (plainElem Tryz.prog 3) pm j D) := mapSame HM5.out (hb8.block pm hpm5)
            have HBw8 : Hid (Below w.heap.size w w8) := HB5.out.trans (hb8.mono hs5)
            have hs8 := hb8.size
            obtain ⟨na, nc, rfl⟩ := rowV HR8.out.nod
            have hNl := nds_len j
            have hmkl := mk_lists (nds j).length (by omega)
            generalize hNN2 : (nds j).length = NL at *
            have HNL : Hid (NL = 2 * j - 1) := hNl
            have hNL2 : NL ≤ 40000 := by omega
            clear hNl
            clear hk8 hb8 hh8 CS2 HR5 HX5 HT5 HM5 HB5 HH7 HB7 HB8 c0
            have htc := HT8.out
            have htl8 : tb < w8.heap.size := by omega
            have c4 : w8.cell? ⟨tb, 4, none⟩ = some (.slice na NL nc) := by simp [World.cell?, htc]
            have hal : Below w8.heap.size w8 (w8.alloc (.cells (madeCells #[.slice none 0 0, .slice none 0 0] (NL * 2)) 112)) := (Below.refl _ _).alloc (Nat.le_refl _) _
            have c5 : (w8.alloc (.cells (madeCells #[.slice none 0 0, .slice none 0 0] (NL * 2)) 112)).cell? ⟨tb, 5, none⟩ = some (.slice none 0 0) := (hal.cell (p := ⟨tb, 5, none⟩) htl8).trans (by simp [World.cell?, htc])
            have z5 : (w8.alloc (.cells (madeCells #[.slice none 0 0, .slice none 0 0] (NL * 2)) 112)).frozen? ⟨tb, 5, none⟩ = false := (hal.frozen (p := ⟨tb, 5, none⟩) htl8).trans (by simp [World.frozen?, htc])
            have hta := (hal.block tb htl8).trans htc
            have HHal := Lib.hid hal
            have HTa := Lib.hid hta
            clear hal hta htc
            go_upto_region 24 with fail
            obtain ⟨gl, hgl0⟩ : ∃ gl, gl = w8.heap.size := ⟨_, rfl⟩
            obtain ⟨w9, ew9⟩ : ∃ w9, w9 = (w8.setCell ⟨tb, 5, none⟩ (.slice (some ⟨w8.heap.size, 0, none⟩) NL NL)).alloc (.cells (madeCells #[.slice none 0 0, .slice none 0 0] (NL * 2)) 112) := ⟨_, rfl⟩
            have hK9 : KpS (fun k => k = tb) w8 w9 := by rw [ew9]; exact ((KpS.refl (fun k => k = tb) w8).set (a := ⟨tb, 5, none⟩) _ (.inl rfl)).alloc _
            have hT9 : w9.heap[tb]? = some (cscB (.slice ra j rc) (.slice xa j xc) gv fb (.slice na NL nc) (.slice (some ⟨gl, 0, none⟩) NL NL) (.slice none 0 0) j) := by rw [ew9, hgl0]; exact (Below.heap_alloc _ _ _ (by simpa using htl8)).trans (heap_setCell_same w8 tb 5 _ _ _ HT8.out)
            have hL9 : LsRow w9 w.heap.size gl NL NL (fun _ => .slice none 0 0) (fun _ => .slice none 0 0) := by
              have h := row_lists (w8.setCell ⟨tb, 5, none⟩ (.slice (some ⟨w8.heap.size, 0, none⟩) NL NL)) w.heap.size NL (by simp; exact HBw8.out.size) (by omega)
              rw [ew9, hgl0]
              simpa using h
            have hgl9 : gl < w9.heap.size ∧ tb < gl ∧ w.heap.size ≤ gl := by rw [ew9, hgl0]; simp; exact ⟨htl8, HBw8.out.size⟩
            have hEls : Else w8 (fun k => k = tb) := fun k h1 h2 => by subst h2; exact ⟨_, _, _, HT8.out, by decide, by decide, by decide, by decide⟩
            have hR9 : BldR w9 w.heap.size fb j (.slice ra j rc) gv (.slice na NL nc) fv R := HR8.out.kept hK9 hEls
            have hX9 : w9.ownsRow w.heap.size 2 1 (.slice xa j xc) j ((xsR R).map (Value.int .i64)) := rowE HX8.out hK9 (fun k h1 h2 => by subst h2; exact ⟨_, _, _, HT8.out, by decide⟩)
            have hH9 : w9.ownsRow wr.heap.size 34 3 (.slice ha j hc) j ((srtY R).flatMap ePt) := rowE HH8.out hK9 (fun k h1 h2 => by subst h2; exact ⟨_, _, _, HT8.out, by decide⟩)
            have hM9 : w9.ownsMap Tryz.prog 32 (plainElem Tryz.prog 3) pm j D := mapSame HM8.out (hK9.block pm (by omega) (by omega))
            have hB9 : Below w.heap.size w w9 := HBw8.out.trans (hK9.toBelow HBw8.out.size (fun k h => by omega))
            have HT9 := Lib.hid hT9
            have HL9 := Lib.hid hL9
            have HR9 := Lib.hid hR9
            have HX9 := Lib.hid hX9
            have HH9 := Lib.hid hH9
            have HM9 := Lib.hid hM9
            have HB9 := Lib.hid hB9
            have hnt9 := HT9.out
            have hs89 := hK9.size
            have hpm9 : pm < w9.heap.size := by omega
            have hxv9 : ∀ g, (Value.slice xa j xc).ownBlock = some g → g < w9.heap.size := fun g h => (hX9.lt g h).2
            have HXV9 := Lib.hid hxv9
            clear hnt9 hxv9
            rw [← ew9]
            clear ew9 hgl0 hK9 hT9 hL9 hEls hR9 hX9 hH9 hM9 hB9 HT8 HR8 HX8 HH8 HM8 HBw8 HHal HTa c4 c5 z5 htl8
            obtain ⟨bj, hbj⟩ : ∃ bj, bj = decide (0 < j) := ⟨_, rfl⟩
            have kj1 : decide ((j : Int) > 0) = bj := by rw [hbj]; simp
            have kj2 : decide ((0 : Int) < (j : Int)) = bj := by rw [hbj]; simp
            have kj3 : decide (0 < j) = bj := hbj.symm
            have HBJ := Lib.hid hbj
            clear hbj
            go_upto_if 102 with fail
            clear kj1 kj2 kj3
            go_cut [] from 12 (fun wx => ∃ (yv : Value) (LN : Nat → Value), Hid (wx.heap[tb]? = some (cscB (.slice ra j rc) (.slice xa j xc) gv fb (.slice na NL nc) (.slice (some ⟨gl, 0, none⟩) NL NL) yv j)) ∧ Hid (wx.ownsRow w9.heap.size 2 1 yv j ((ysR R (ysOf R)).map (Value.int .i64))) ∧ Hid (LsRow wx w.heap.size gl NL NL LN (fun _ => .slice none 0 0)) ∧ Hid (KpS (fun k => k = tb ∨ k = gl) w9 wx) ∧
              Hid (∀ k, k < NL → k ≠ 2 * j - 2 → LN k = .slice none 0 0) ∧ Hid (0 < j → wx.ownsRow w9.heap.size 32 1 (LN (2 * j - 2)) j (((ysOf R).map (nmR R)).map (Value.int .u32))))
            case first =>
              by_cases hj0 : j = 0
              · obtain rfl : bj = false := by rw [HBJ.out]; simp; omega
                have hR0 : R = [] := List.eq_nil_of_length_eq_zero (by omega)
                have hys : ysR R (ysOf R) = [] := by subst hR0; simp [ysR, ysOf, srtY]
                have HJ := Lib.hid hj0
                clear hj0
                go_wp2
                go_meet
                refine ⟨.slice none 0 0, fun _ => .slice none 0 0, HT9.out, ?_, HL9.out, KpS.refl _ _, fun _ _ _ => rfl, fun h => absurd HJ.out (by omega)⟩
                show World.ownsRow _ _ _ _ _ _ _
                rw [hys, HJ.out]
                exact World.ownsRow_nil _ _ _ _
              · obtain rfl : bj = true := by rw [HBJ.out]; simp; omega
                have hNLj : 2 * j - 2 < NL := by have := HNL.out; omega
                obtain ⟨rt, hrt⟩ : ∃ rt, rt = 2 * j - 2 := ⟨_, rfl⟩
                have HRT := Lib.hid hrt
                rw [← hrt] at hNLj
                clear hrt
                go_wp2_with fail
                go_loopg [105] j (fun kx s105 wr => ∃ (i : Nat) (yv vr : Value), s105 = .int .i64 i ∧ i ≤ j ∧ j - i ≤ kx ∧ Hid (wr.heap[tb]? = some (cscB (.slice ra j rc) (.slice xa j xc) gv fb (.slice na NL nc) (.slice (some ⟨gl, 0, none⟩) NL NL) yv j)) ∧ Hid (wr.ownsRow w9.heap.size 2 1 yv i (((ysR R (ysOf R)).take i).map (Value.int .i64))) ∧
                  Hid (LsRow wr w.heap.size gl NL NL (upd (fun _ => .slice none 0 0) rt vr) (fun _ => .slice none 0 0)) ∧ Hid (wr.ownsRow w9.heap.size 32 1 vr i ((((ysOf R).take i).map (nmR R)).map (Value.int .u32))) ∧ Hid (KpS (fun k => k = tb ∨ k = gl) w9 wr))
                case atStart =>
                  refine ⟨0, .slice none 0 0, .slice none 0 0, rfl, Nat.zero_le _, by omega, HT9.out, World.ownsRow_nil _ _ _ _, ?_, World.ownsRow_nil _ _ _ _, KpS.refl _ _⟩
                  show LsRow _ _ _ _ _ _ _
                  rw [upd_id _ rt _ rfl]
                  exact HL9.out
                case round =>
                  obtain ⟨i, yv, vr, rfl, hi, hkx3, HT1, HY1, HL1, HV1, HK1⟩ := hrel
                  by_cases hij : i < j
                  · have hrr := rowK HH9.out HK1.out (fun g h h2 => by
                      rcases h2 with h2 | h2
                      · exact row_ne HH9.out HT9.out (by decide) g h h2.symm
                      · subst h2
                        exact rows_ne HL9.out HH9.out (by decide) g rfl h)
                    obtain ⟨_, _, ee, -, -, hrd⟩ := RdK.of_owns ePt_len (by decide) hrr
                    injection ee with e1' e2' e3'
                    subst e1'
                    clear e2' e3'
                    have hYl : (srtY R).length = j := by rw [(srtY_perm R).length_eq]; exact hRl
                    obtain ⟨b, off, ea, hbl, hcs⟩ := hrd.get (by omega)
                    have x0 := hcs i (by omega) 0 (by omega)
                    have x1 := hcs i (by omega) 1 (by omega)
                    have x2 := hcs i (by omega) 2 (by omega)
                    simp only [ePt, List.getElem?_cons_zero, List.getElem?_cons_succ, Nat.add_zero] at x0 x1 x2
                    have hol : i < (ysOf R).length := by rw [ysOf_len]; omega
                    have hpt := ysOf_pt hol
                    have hyt : (ysR R (ysOf R)).take (i + 1) = (ysR R (ysOf R)).take i ++ [((srtY R)[i]'(by omega)).2.1] := by
                      have h : i < (ysR R (ysOf R)).length := by unfold ysR; simp; exact hol
                      rw [List.take_succ_eq_append_getElem h]
                      simp only [ysR, List.getElem_map, yvR, hpt]
                    have hnt : ((ysOf R).take (i + 1)).map (nmR R) = ((ysOf R).take i).map (nmR R) ++ [((srtY R)[i]'(by omega)).2.2] := by
                      rw [List.take_succ_eq_append_getElem hol, List.map_append]
                      simp only [List.map_cons, List.map_nil, nmR, hpt]
                    have HYT := Lib.hid hyt
                    have HNT := Lib.hid hnt
                    subst ea
                    clear hcs hrd hyt hnt hrr hpt
                    generalize (srtY R)[i]'(by omega) = p at *
                    obtain ⟨px, py, pi⟩ := p
                    simp only at HYT HNT x0 x1 x2
                    have htc := HT1.out
                    have htl5 := (Array.getElem?_eq_some_iff.1 htc).1
                    obtain ⟨ya, yc, rfl⟩ := rowV HY1.out
                    obtain ⟨vra, vrc, rfl⟩ := rowV HV1.out
                    go_upto_region 28 with fail
                    obtain ⟨xb, hxb0⟩ : ∃ xb, xb = wr.heap.size := ⟨_, rfl⟩
                    obtain ⟨w6, ew6⟩ : ∃ w6, w6 = wr.alloc (.cells #[.int .i64 px, .int .i64 py, .int .u32 pi] 34) := ⟨_, rfl⟩
                    have hb6 : Below wr.heap.size wr w6 := by rw [ew6]; exact (Below.refl _ _).alloc (Nat.le_refl _) _
                    have hx6 : w6.heap[xb]? = some (.cells #[.int .i64 px, .int .i64 py, .int .u32 pi] 34 (0, 0)) := by rw [ew6, hxb0]; exact lit0 wr _
                    have ht6 := (hb6.block tb htl5).trans htc
                    have hs45 := HK1.out.size
                    have hs56 := hb6.size
                    have hxb1 : w9.heap.size ≤ xb := by omega
                    have g1 := cell_belowW (w := w6) (ad := ⟨tb, 6, none⟩) (v := .slice ya i yc) (by simp [World.cell?, ht6])
                    have g2 := cell_belowW (w := w6) (ad := ⟨xb, 1, none⟩) (v := .int .i64 py) (by simp [World.cell?, hx6])
                    have HY6 := Lib.hid (ownsRow_below HY1.out hb6)
                    have HV6 := Lib.hid (ownsRow_below HV1.out hb6)
                    have HL6 : Hid (LsRow w6 w.heap.size gl NL NL (upd (fun _ => .slice none 0 0) rt (.slice vra i vrc)) (fun _ => .slice none 0 0)) := ownsRow_below HL1.out hb6
                    have HK6 : Hid (KpS (fun k => k = tb ∨ k = gl) w9 w6) := HK1.out.below hb6
                    have HT6 := Lib.hid ht6
                    have HXB6 := Lib.hid hx6
                    rw [← ew6, ← hxb0]
                    clear ew6 hb6 hx6 ht6 htc x0 x1 x2 hxb0 HY1 HV1 HL1 HK1 HT1
                    refine wp_region_head (fun W => ∃ p : BelowW w6, W = p.W) [8, 9, 10, 11] [(0, false), (1, false), (2, false), (3, false), (4, true), (5, false), (6, true)] (by kernel_rfl) (by kernel_rfl) (fun _ _ d _ _ h => by cases d <;> exact h) ⟨⟨_, (Below.refl _ _).drew⟩, rfl⟩ 5 rfl (by kernel_rfl) ?_
                    simp only [pickB, List.filterMap_cons, List.filterMap_nil, List.getElem?_toArray, List.getElem?_cons_succ, List.getElem?_cons_zero, Option.map_some]
                    repeat (refine wpHd_step (fun K hK => ?_); go_simp; first | (refine hK _ ?_; clear hK K) | (apply Exists.intro; refine ⟨fun _ => ?_, hK _ ?_⟩; rfl; clear hK K))
                    refine wpHd_nil ?_
                    refine wpAnyT_ready [7] (by kernel_rfl) (by simp) ?_
                    refine AllReadyT.cons rfl (fun K hK => ?_) AllReadyT.nil
                    go_simp
                    refine hK _ _ (fun _ _ => ⟨⟨_, (Below.refl _ w6).alloc (Nat.le_refl _) _ |>.drew⟩, rfl⟩) ?_
                    clear hK K
                    refine wpAnyT_ready [8] (by kernel_rfl) (by simp) ?_
                    refine AllReadyT.cons rfl (fun K hK => ?_) AllReadyT.nil
                    refine step_append1E elInt64 w9.heap.size (w := (w6.alloc (.cells #[.int .i64 py] 2)).drew) (ownsRow_below HY6.out ((Below.refl _ w6).alloc (Nat.le_refl _) _ |>.drew)) [.int .i64 py] rfl (by simp [Value.oneCell']) rfl (.tmp 113) (.tmp 116) rfl rfl w6.heap.size rfl (lit0d _ _) (by unfold maxLen; omega) (by omega) (by simp; omega) ?_
                    intro ga capa wA hownA hgA hblkA hltA
                    refine hK _ _ (fun _ h => absurd (by simp) h) ?_
                    clear hK K
                    refine wpAnyT_line [9, 10, 11] _ _ _ (by kernel_rfl) ?_
                    simp only [pick, List.filterMap_cons, List.filterMap_nil, List.getElem?_toArray, List.getElem?_cons_succ, List.getElem?_cons_zero]
                    have hg68 : w6.grownBy wA (Value.slice ya i yc).ownBlock := grownBy_trans (below_asGrown ((Below.refl _ w6).alloc (Nat.le_refl _) _ |>.drew)) hgA
                    have KA8 : KpS (fun k => (Value.slice ya i yc).ownBlock = some k) w6 wA := (KpS.refl _ w6).grown hg68 (fun k hk => .inl hk)
                    have hyb : ∀ g, (Value.slice ya i yc).ownBlock = some g → w9.heap.size ≤ g := fun g h => (HY6.out.lt g h).1
                    have htA := blkK KA8 HT6.out (fun h => by have := hyb tb h; omega)
                    have q8 : wA.cell? ⟨tb, 6, none⟩ = some (.slice ya i yc) := by simp [World.cell?, htA]
                    have f8 : wA.frozen? ⟨tb, 6, none⟩ = false := by simp [World.frozen?, htA]
                    obtain ⟨wB, ewB⟩ : ∃ wB, wB = wA.setCell ⟨tb, 6, none⟩ (.slice (some ⟨ga, 0, none⟩) (i + 1) capa) := ⟨_, rfl⟩
                    have hsetB : KpS (fun k => k = tb) wA wB := by rw [ewB]; exact (KpS.refl (fun k => k = tb) wA).set (a := ⟨tb, 6, none⟩) _ (.inl rfl)
                    have htB : wB.heap[tb]? = some (cscB (.slice ra j rc) (.slice xa j xc) gv fb (.slice na NL nc) (.slice (some ⟨gl, 0, none⟩) NL NL) (.slice (some ⟨ga, 0, none⟩) (i + 1) capa) j) := by rw [ewB]; exact heap_setCell_same wA tb 6 _ _ _ htA
                    have HYB : Hid (wB.ownsRow w9.heap.size 2 1 (.slice (some ⟨ga, 0, none⟩) (i + 1) capa) (i + 1) (((ysR R (ysOf R)).take (i + 1)).map (Value.int .i64))) := by
                      have h9 := rowK (S := fun k => k = tb) hownA hsetB (fun g h h2 => by have := (hownA.lt g h).1; omega)
                      show World.ownsRow _ _ _ _ _ _ _
                      rw [HYT.out, List.map_append]
                      exact h9
                    have hVB : wB.ownsRow w9.heap.size 32 1 (.slice vra i vrc) i ((((ysOf R).take i).map (nmR R)).map (Value.int .u32)) := rowK (S := fun k => k = tb) (rowK (S := fun k => (Value.slice ya i yc).ownBlock = some k) HV6.out KA8 (fun g h h2 => rows_ne HV6.out HY6.out (by decide) g h h2)) hsetB (fun g h h2 => by have := (HV6.out.lt g h).1; omega)
                    have hLB : LsRow wB w.heap.size gl NL NL (upd (fun _ => .slice none 0 0) rt (.slice vra i vrc)) (fun _ => .slice none 0 0) := (LsRow.kept HL6.out KA8 (fun h => by have := hyb gl h; omega)).kept hsetB (by omega)
                    have HKB : Hid (KpS (fun k => k = tb ∨ k = gl) w9 wB) := (((HK6.out.mono (S' := fun k => (k = tb ∨ k = gl) ∨ w9.heap.size ≤ k) (fun k h => .inl h)).trans (KA8.mono (fun k h => .inr (hyb k h)))).strip).trans (hsetB.mono (fun k h => .inl h))
                    have hxB : wB.heap[xb]? = some (.cells #[.int .i64 px, .int .i64 py, .int .u32 pi] 34 (0, 0)) := blkK hsetB (blkK KA8 HXB6.out (fun h => row_ne HY6.out HXB6.out (by decide) xb h rfl)) (by omega)
                    have HVB := Lib.hid hVB
                    have HLB := Lib.hid hLB
                    have HTB := Lib.hid htB
                    have hsB := HKB.out.size
                    clear KA8 hg68 hgA hownA htA g1 g2 HY6 HT6 HK6 hyb HV6 HL6 HXB6 hsetB hVB hblkA hltA
                    go_upto_region 29 with fail
                    rw [← ewB]
                    clear ewB q8 f8
                    have hvg : ∀ g, (Value.slice vra i vrc).ownBlock = some g → w9.heap.size ≤ g := fun g h => (HVB.out.lt g h).1
                    have keep : ∀ {bk o : Nat} {v : Value}, bk < wB.heap.size → ¬ (Value.slice vra i vrc).ownBlock = some bk → wB.cell? ⟨bk, o, none⟩ = some v → ∀ p : KeptW (fun k => (Value.slice vra i vrc).ownBlock = some k) wB, p.W.cell? ⟨bk, o, none⟩ = some v := fun hb hd hv p => ((cellK p.h hb hd).1 _).trans hv
                    have k1 := keep (bk := tb) (o := 5) (v := .slice (some ⟨gl, 0, none⟩) NL NL) (by omega) (fun h => by have := hvg tb h; omega) (by simp [World.cell?, htB])
                    have k2 := keep (bk := xb) (o := 2) (v := .int .u32 pi) (Array.getElem?_eq_some_iff.1 hxB).1 (fun h => row_ne HVB.out hxB (by decide) xb h rfl) (by simp [World.cell?, hxB])
                    have k3 := keep (bk := gl) (o := rt * 2) (v := .slice vra i vrc) (by omega) (fun h => by have := hvg gl h; omega) ((hLB.get hNLj).1.trans (by rw [upd_same]))
                    have q9 := (hLB.get hNLj).1
                    rw [upd_same] at q9
                    have f9 := hLB.frozenAt (rt * 2)
                    have hgB : gl < wB.heap.size := by omega
                    have CRT : Hid (∀ W, KpS (fun k => (Value.slice vra i vrc).ownBlock = some k) wB W → Calls Tryz.prog 51 #[.pointer (some ⟨fb, 0, none⟩)] W fun e w' => e = .returned (.int .i64 (rt : Nat)) ∧ w' = W) := fun W hb => by
                      have hf9 := HR9.out.frm.blk
                      have hfl := (Array.getElem?_eq_some_iff.1 hf9).1
                      have hfB := blkK HKB.out hf9 (fun h => by
                        rcases h with h | h
                        · subst h; have h9 := hf9.symm.trans HT9.out; injection h9 with h9; injection h9 with _ h9 _; exact absurd h9 (by decide)
                        · subst h; exact row_ne HL9.out hf9 (by decide) fb rfl rfl)
                      have hfW := blkK hb hfB (fun h => by have := hvg fb h; omega)
                      have h := frame_root fb j (by omega) (by omega) W (by simp [World.cell?, hfW]) (by simp [World.cell?, hfW])
                      rw [← HRT.out] at h
                      exact h
                    clear htB hxB hLB keep
                    refine wp_region_head (fun W => ∃ p : KeptW (fun k => (Value.slice vra i vrc).ownBlock = some k) wB, W = p.W) [19, 20, 21] [(0, false), (1, false), (2, false), (3, true), (4, false), (6, false), (7, false), (8, false), (9, true), (10, false), (15, false), (16, true)] (by kernel_rfl) (by kernel_rfl) (fun _ _ d _ _ h => by cases d <;> exact h) ⟨⟨_, (KpS.refl _ _).drew⟩, rfl⟩ 10 rfl (by kernel_rfl) ?_
                    simp only [pickB, List.filterMap_cons, List.filterMap_nil, List.getElem?_toArray, List.getElem?_cons_succ, List.getElem?_cons_zero, Option.map_some]
                    repeat (refine wpHd_step (fun K hK => ?_); go_simp; first | (refine hK _ ?_; clear hK K) | (apply Exists.intro; refine ⟨fun _ => ?_, hK _ ?_⟩; rfl; clear hK K))
                    refine wpHd_nil ?_
                    refine wpAnyT_ready [5, 17] (by kernel_rfl) (by simp) ?_
                    refine AllReadyT.cons rfl (fun K hK => ?_) (AllReadyT.cons rfl (fun K hK => ?_) AllReadyT.nil)
                    · -- Root first
                      refine step_call ent_froot rfl _ _ rfl (vals := #[.pointer (some ⟨fb, 0, none⟩)]) rfl (CRT.out _ ((KpS.refl (fun k => (Value.slice vra i vrc).ownBlock = some k) wB).drew)) ?_
                      rintro e w' ⟨rfl, ew'⟩
                      subst ew'
                      refine ⟨_, rfl, hK _ _ (fun h _ => h) ?_⟩
                      clear hK K
                      refine wpAnyT_ready [11, 17] (by kernel_rfl) (by simp) ?_
                      refine AllReadyT.cons rfl (fun K hK => ?_) (AllReadyT.cons rfl (fun K hK => ?_) AllReadyT.nil)
                      · refine step_call ent_froot rfl _ _ rfl (vals := #[.pointer (some ⟨fb, 0, none⟩)]) rfl (CRT.out _ ((KpS.refl (fun k => (Value.slice vra i vrc).ownBlock = some k) wB).drew)) ?_
                        rintro e w' ⟨rfl, ew'⟩
                        subst ew'
                        refine ⟨_, rfl, hK _ _ (fun h _ => h) ?_⟩
                        clear hK K
                        refine wpAnyT_next [(12, false), (13, false), (14, true)] (by kernel_rfl) (fun _ _ d _ _ h => by cases d <;> exact h) ⟨⟨_, ((KpS.refl (fun k => (Value.slice vra i vrc).ownBlock = some k) wB).drew)⟩, rfl⟩ (by kernel_rfl) (by kernel_rfl) rfl ?_
                        simp only [pickB, List.filterMap_cons, List.filterMap_nil, List.getElem?_toArray, List.getElem?_cons_succ, List.getElem?_cons_zero, Option.map_some]
                        repeat (refine wpHd_step (fun K hK => ?_); go_simp; first | (refine hK _ ?_; clear hK K) | (apply Exists.intro; refine ⟨fun _ => ?_, hK _ ?_⟩; rfl; clear hK K))
                        refine wpHd_nil ?_
                        refine wpAnyT_ready [17] (by kernel_rfl) (by simp) ?_
                        refine AllReadyT.cons rfl (fun K hK => ?_) AllReadyT.nil
                        go_simp
                        refine hK _ _ (fun _ _ => ⟨⟨_, (((KpS.refl (fun k => (Value.slice vra i vrc).ownBlock = some k) wB).alloc _).drew)⟩, rfl⟩) ?_
                        clear hK K
                        refine wpAnyT_ready [18] (by kernel_rfl) (by simp) ?_
                        refine AllReadyT.cons rfl (fun K hK => ?_) AllReadyT.nil
                        refine step_append1E elU32 w9.heap.size (w := (wB.alloc (.cells #[.int .u32 pi] 32)).drew) (ownsRow_below HVB.out ((Below.refl _ wB).alloc (Nat.le_refl _) _ |>.drew)) [.int .u32 pi] rfl (by simp [Value.oneCell']) rfl (.tmp 134) (.tmp 137) rfl rfl wB.heap.size rfl (lit0d _ _) (by unfold maxLen; omega) (by omega) (by simp; omega) ?_
                        intro gc capc wC hownC hgC hblkC hltC
                        have hgBC : wB.grownBy wC (Value.slice vra i vrc).ownBlock := grownBy_trans (below_asGrown ((Below.refl _ wB).alloc (Nat.le_refl _) _ |>.drew)) hgC
                        have KC : KpS (fun k => (Value.slice vra i vrc).ownBlock = some k) wB wC := (KpS.refl _ wB).grown hgBC (fun k hk => .inl hk)
                        refine hK _ _ (fun _ _ => ⟨⟨_, KC⟩, rfl⟩) ?_
                        clear hK K
                        refine wpAnyT_line [19, 20, 21] _ _ _ (by kernel_rfl) ?_
                        simp only [pick, List.filterMap_cons, List.filterMap_nil, List.getElem?_toArray, List.getElem?_cons_succ, List.getElem?_cons_zero]
                        have hgC2 : ¬ (Value.slice vra i vrc).ownBlock = some gl := fun h => by have := hvg gl h; omega
                        obtain ⟨ckC, fkC⟩ := cellK KC hgB hgC2
                        have qC := (ckC (rt * 2)).trans q9
                        have fC := (fkC (rt * 2)).trans f9
                        have KS : KpS (fun k => k = gl) wC (wC.setCell ⟨gl, rt * 2, none⟩ (.slice (some ⟨gc, 0, none⟩) (i + 1) capc)) := (KpS.refl (fun k => k = gl) wC).set (a := ⟨gl, rt * 2, none⟩) _ (.inl rfl)
                        have HTD : Hid ((wC.setCell ⟨gl, rt * 2, none⟩ (.slice (some ⟨gc, 0, none⟩) (i + 1) capc)).heap[tb]? = some (cscB (.slice ra j rc) (.slice xa j xc) gv fb (.slice na NL nc) (.slice (some ⟨gl, 0, none⟩) NL NL) (.slice (some ⟨ga, 0, none⟩) (i + 1) capa) j)) := blkK KS (blkK KC HTB.out (fun h => by have := hvg tb h; omega)) (by omega)
                        have HYD : Hid ((wC.setCell ⟨gl, rt * 2, none⟩ (.slice (some ⟨gc, 0, none⟩) (i + 1) capc)).ownsRow w9.heap.size 2 1 (.slice (some ⟨ga, 0, none⟩) (i + 1) capa) (i + 1) (((ysR R (ysOf R)).take (i + 1)).map (Value.int .i64))) := rowK (S := fun k => k = gl) (rowK (S := fun k => (Value.slice vra i vrc).ownBlock = some k) HYB.out KC (fun g h h2 => rows_ne HVB.out HYB.out (by decide) g h2 h)) KS (fun g h h2 => by have := (HYB.out.lt g h).1; omega)
                        have HLD : Hid (LsRow (wC.setCell ⟨gl, rt * 2, none⟩ (.slice (some ⟨gc, 0, none⟩) (i + 1) capc)) w.heap.size gl NL NL (upd (fun _ => .slice none 0 0) rt (.slice (some ⟨gc, 0, none⟩) (i + 1) capc)) (fun _ => .slice none 0 0)) := by
                          have h := (LsRow.kept HLB.out KC hgC2).setN hNLj (.slice (some ⟨gc, 0, none⟩) (i + 1) capc)
                          rwa [upd_upd] at h
                        have HVD : Hid ((wC.setCell ⟨gl, rt * 2, none⟩ (.slice (some ⟨gc, 0, none⟩) (i + 1) capc)).ownsRow w9.heap.size 32 1 (.slice (some ⟨gc, 0, none⟩) (i + 1) capc) (i + 1) ((((ysOf R).take (i + 1)).map (nmR R)).map (Value.int .u32))) := by
                          have h := rowK (S := fun k => k = gl) hownC KS (fun g h h2 => by have := (hownC.lt g h).1; omega)
                          show World.ownsRow _ _ _ _ _ _ _
                          rw [HNT.out, List.map_append]
                          exact h
                        have HKD : Hid (KpS (fun k => k = tb ∨ k = gl) w9 (wC.setCell ⟨gl, rt * 2, none⟩ (.slice (some ⟨gc, 0, none⟩) (i + 1) capc))) := (((HKB.out.mono (S' := fun k => (k = tb ∨ k = gl) ∨ w9.heap.size ≤ k) (fun k h => .inl h)).trans (KC.mono (fun k h => .inr (hvg k h)))).strip).trans (KS.mono (fun k h => .inr h))
                        clear ckC fkC KC KS hgBC hgC hownC k1 k2 k3 q9 f9 HVB HLB HTB HYB HKB hvg hblkC hltC
                        go_wp2
                        go_roundg (j - (i + 1))
                        case measure => omega
                        case rel => exact ⟨i + 1, _, _, by go_num, by omega, Nat.le_refl _, HTD, HYD, HLD, HVD, HKD⟩
                      · go_simp
                        refine hK _ _ (fun _ _ => ⟨⟨_, (((KpS.refl (fun k => (Value.slice vra i vrc).ownBlock = some k) wB).alloc _).drew)⟩, rfl⟩) ?_
                        clear hK K
                        refine wpAnyT_ready [11] (by kernel_rfl) (by simp) ?_
                        refine AllReadyT.cons rfl (fun K hK => ?_) AllReadyT.nil
                        refine step_call ent_froot rfl _ _ rfl (vals := #[.pointer (some ⟨fb, 0, none⟩)]) rfl (CRT.out _ (((KpS.refl (fun k => (Value.slice vra i vrc).ownBlock = some k) wB).alloc _).drew)) ?_
                        rintro e w' ⟨rfl, ew'⟩
                        subst ew'
                        refine ⟨_, rfl, hK _ _ (fun h _ => h) ?_⟩
                        clear hK K
                        refine wpAnyT_next [(12, false), (13, false), (14, true)] (by kernel_rfl) (fun _ _ d _ _ h => by cases d <;> exact h) ⟨⟨_, (((KpS.refl (fun k => (Value.slice vra i vrc).ownBlock = some k) wB).alloc _).drew)⟩, rfl⟩ (by kernel_rfl) (by kernel_rfl) rfl ?_
                        simp only [pickB, List.filterMap_cons, List.filterMap_nil, List.getElem?_toArray, List.getElem?_cons_succ, List.getElem?_cons_zero, Option.map_some]
                        repeat (refine wpHd_step (fun K hK => ?_); go_simp; first | (refine hK _ ?_; clear hK K) | (apply Exists.intro; refine ⟨fun _ => ?_, hK _ ?_⟩; rfl; clear hK K))
                        refine wpHd_nil ?_
                        refine wpAnyT_ready [18] (by kernel_rfl) (by simp) ?_
                        refine AllReadyT.cons rfl (fun K hK => ?_) AllReadyT.nil
                        refine step_append1E elU32 w9.heap.size (w := (wB.alloc (.cells #[.int .u32 pi] 32)).drew) (ownsRow_below HVB.out ((Below.refl _ wB).alloc (Nat.le_refl _) _ |>.drew)) [.int .u32 pi] rfl (by simp [Value.oneCell']) rfl (.tmp 134) (.tmp 137) rfl rfl wB.heap.size rfl (lit0d _ _) (by unfold maxLen; omega) (by omega) (by simp; omega) ?_
                        intro gc capc wC hownC hgC hblkC hltC
                        have hgBC : wB.grownBy wC (Value.slice vra i vrc).ownBlock := grownBy_trans (below_asGrown ((Below.refl _ wB).alloc (Nat.le_refl _) _ |>.drew)) hgC
                        have KC : KpS (fun k => (Value.slice vra i vrc).ownBlock = some k) wB wC := (KpS.refl _ wB).grown hgBC (fun k hk => .inl hk)
                        refine hK _ _ (fun _ _ => ⟨⟨_, KC⟩, rfl⟩) ?_
                        clear hK K
                        refine wpAnyT_line [19, 20, 21] _ _ _ (by kernel_rfl) ?_
                        simp only [pick, List.filterMap_cons, List.filterMap_nil, List.getElem?_toArray, List.getElem?_cons_succ, List.getElem?_cons_zero]
                        have hgC2 : ¬ (Value.slice vra i vrc).ownBlock = some gl := fun h => by have := hvg gl h; omega
                        obtain ⟨ckC, fkC⟩ := cellK KC hgB hgC2
                        have qC := (ckC (rt * 2)).trans q9
                        have fC := (fkC (rt * 2)).trans f9
                        have KS : KpS (fun k => k = gl) wC (wC.setCell ⟨gl, rt * 2, none⟩ (.slice (some ⟨gc, 0, none⟩) (i + 1) capc)) := (KpS.refl (fun k => k = gl) wC).set (a := ⟨gl, rt * 2, none⟩) _ (.inl rfl)
                        have HTD : Hid ((wC.setCell ⟨gl, rt * 2, none⟩ (.slice (some ⟨gc, 0, none⟩) (i + 1) capc)).heap[tb]? = some (cscB (.slice ra j rc) (.slice xa j xc) gv fb (.slice na NL nc) (.slice (some ⟨gl, 0, none⟩) NL NL) (.slice (some ⟨ga, 0, none⟩) (i + 1) capa) j)) := blkK KS (blkK KC HTB.out (fun h => by have := hvg tb h; omega)) (by omega)
                        have HYD : Hid ((wC.setCell ⟨gl, rt * 2, none⟩ (.slice (some ⟨gc, 0, none⟩) (i + 1) capc)).ownsRow w9.heap.size 2 1 (.slice (some ⟨ga, 0, none⟩) (i + 1) capa) (i + 1) (((ysR R (ysOf R)).take (i + 1)).map (Value.int .i64))) := rowK (S := fun k => k = gl) (rowK (S := fun k => (Value.slice vra i vrc).ownBlock = some k) HYB.out KC (fun g h h2 => rows_ne HVB.out HYB.out (by decide) g h2 h)) KS (fun g h h2 => by have := (HYB.out.lt g h).1; omega)
                        have HLD : Hid (LsRow (wC.setCell ⟨gl, rt * 2, none⟩ (.slice (some ⟨gc, 0, none⟩) (i + 1) capc)) w.heap.size gl NL NL (upd (fun _ => .slice none 0 0) rt (.slice (some ⟨gc, 0, none⟩) (i + 1) capc)) (fun _ => .slice none 0 0)) := by
                          have h := (LsRow.kept HLB.out KC hgC2).setN hNLj (.slice (some ⟨gc, 0, none⟩) (i + 1) capc)
                          rwa [upd_upd] at h
                        have HVD : Hid ((wC.setCell ⟨gl, rt * 2, none⟩ (.slice (some ⟨gc, 0, none⟩) (i + 1) capc)).ownsRow w9.heap.size 32 1 (.slice (some ⟨gc, 0, none⟩) (i + 1) capc) (i + 1) ((((ysOf R).take (i + 1)).map (nmR R)).map (Value.int .u32))) := by
                          have h := rowK (S := fun k => k = gl) hownC KS (fun g h h2 => by have := (hownC.lt g h).1; omega)
                          show World.ownsRow _ _ _ _ _ _ _
                          rw [HNT.out, List.map_append]
                          exact h
                        have HKD : Hid (KpS (fun k => k = tb ∨ k = gl) w9 (wC.setCell ⟨gl, rt * 2, none⟩ (.slice (some ⟨gc, 0, none⟩) (i + 1) capc))) := (((HKB.out.mono (S' := fun k => (k = tb ∨ k = gl) ∨ w9.heap.size ≤ k) (fun k h => .inl h)).trans (KC.mono (fun k h => .inr (hvg k h)))).strip).trans (KS.mono (fun k h => .inr h))
                        clear ckC fkC KC KS hgBC hgC hownC k1 k2 k3 q9 f9 HVB HLB HTB HYB HKB hvg hblkC hltC
                        go_wp2
                        go_roundg (j - (i + 1))
                        case measure => omega
                        case rel => exact ⟨i + 1, _, _, by go_num, by omega, Nat.le_refl _, HTD, HYD, HLD, HVD, HKD⟩
                    · go_simp
                      refine hK _ _ (fun _ _ => ⟨⟨_, (((KpS.refl (fun k => (Value.slice vra i vrc).ownBlock = some k) wB).alloc _).drew)⟩, rfl⟩) ?_
                      clear hK K
                      refine wpAnyT_ready [5] (by kernel_rfl) (by simp) ?_
                      refine AllReadyT.cons rfl (fun K hK => ?_) AllReadyT.nil
                      refine step_call ent_froot rfl _ _ rfl (vals := #[.pointer (some ⟨fb, 0, none⟩)]) rfl (CRT.out _ (((KpS.refl (fun k => (Value.slice vra i vrc).ownBlock = some k) wB).alloc _).drew)) ?_
                      rintro e w' ⟨rfl, ew'⟩
                      subst ew'
                      refine ⟨_, rfl, hK _ _ (fun h _ => h) ?_⟩
                      clear hK K
                      refine wpAnyT_ready [11] (by kernel_rfl) (by simp) ?_
                      refine AllReadyT.cons rfl (fun K hK => ?_) AllReadyT.nil
                      refine step_call ent_froot rfl _ _ rfl (vals := #[.pointer (some ⟨fb, 0, none⟩)]) rfl (CRT.out _ (((KpS.refl (fun k => (Value.slice vra i vrc).ownBlock = some k) wB).alloc _).drew)) ?_
                      rintro e w' ⟨rfl, ew'⟩
                      subst ew'
                      refine ⟨_, rfl, hK _ _ (fun h _ => h) ?_⟩
                      clear hK K
                      refine wpAnyT_next [(12, false), (13, false), (14, true)] (by kernel_rfl) (fun _ _ d _ _ h => by cases d <;> exact h) ⟨⟨_, (((KpS.refl (fun k => (Value.slice vra i vrc).ownBlock = some k) wB).alloc _).drew)⟩, rfl⟩ (by kernel_rfl) (by kernel_rfl) rfl ?_
                      simp only [pickB, List.filterMap_cons, List.filterMap_nil, List.getElem?_toArray, List.getElem?_cons_succ, List.getElem?_cons_zero, Option.map_some]
                      repeat (refine wpHd_step (fun K hK => ?_); go_simp; first | (refine hK _ ?_; clear hK K) | (apply Exists.intro; refine ⟨fun _ => ?_, hK _ ?_⟩; rfl; clear hK K))
                      refine wpHd_nil ?_
                      refine wpAnyT_ready [18] (by kernel_rfl) (by simp) ?_
                      refine AllReadyT.cons rfl (fun K hK => ?_) AllReadyT.nil
                      refine step_append1E elU32 w9.heap.size (w := (wB.alloc (.cells #[.int .u32 pi] 32)).drew) (ownsRow_below HVB.out ((Below.refl _ wB).alloc (Nat.le_refl _) _ |>.drew)) [.int .u32 pi] rfl (by simp [Value.oneCell']) rfl (.tmp 134) (.tmp 137) rfl rfl wB.heap.size rfl (lit0d _ _) (by unfold maxLen; omega) (by omega) (by simp; omega) ?_
                      intro gc capc wC hownC hgC hblkC hltC
                      have hgBC : wB.grownBy wC (Value.slice vra i vrc).ownBlock := grownBy_trans (below_asGrown ((Below.refl _ wB).alloc (Nat.le_refl _) _ |>.drew)) hgC
                      have KC : KpS (fun k => (Value.slice vra i vrc).ownBlock = some k) wB wC := (KpS.refl _ wB).grown hgBC (fun k hk => .inl hk)
                      refine hK _ _ (fun _ _ => ⟨⟨_, KC⟩, rfl⟩) ?_
                      clear hK K
                      refine wpAnyT_line [19, 20, 21] _ _ _ (by kernel_rfl) ?_
                      simp only [pick, List.filterMap_cons, List.filterMap_nil, List.getElem?_toArray, List.getElem?_cons_succ, List.getElem?_cons_zero]
                      have hgC2 : ¬ (Value.slice vra i vrc).ownBlock = some gl := fun h => by have := hvg gl h; omega
                      obtain ⟨ckC, fkC⟩ := cellK KC hgB hgC2
                      have qC := (ckC (rt * 2)).trans q9
                      have fC := (fkC (rt * 2)).trans f9
                      have KS : KpS (fun k => k = gl) wC (wC.setCell ⟨gl, rt * 2, none⟩ (.slice (some ⟨gc, 0, none⟩) (i + 1) capc)) := (KpS.refl (fun k => k = gl) wC).set (a := ⟨gl, rt * 2, none⟩) _ (.inl rfl)
                      have HTD : Hid ((wC.setCell ⟨gl, rt * 2, none⟩ (.slice (some ⟨gc, 0, none⟩) (i + 1) capc)).heap[tb]? = some (cscB (.slice ra j rc) (.slice xa j xc) gv fb (.slice na NL nc) (.slice (some ⟨gl, 0, none⟩) NL NL) (.slice (some ⟨ga, 0, none⟩) (i + 1) capa) j)) := blkK KS (blkK KC HTB.out (fun h => by have := hvg tb h; omega)) (by omega)
                      have HYD : Hid ((wC.setCell ⟨gl, rt * 2, none⟩ (.slice (some ⟨gc, 0, none⟩) (i + 1) capc)).ownsRow w9.heap.size 2 1 (.slice (some ⟨ga, 0, none⟩) (i + 1) capa) (i + 1) (((ysR R (ysOf R)).take (i + 1)).map (Value.int .i64))) := rowK (S := fun k => k = gl) (rowK (S := fun k => (Value.slice vra i vrc).ownBlock = some k) HYB.out KC (fun g h h2 => rows_ne HVB.out HYB.out (by decide) g h2 h)) KS (fun g h h2 => by have := (HYB.out.lt g h).1; omega)
                      have HLD : Hid (LsRow (wC.setCell ⟨gl, rt * 2, none⟩ (.slice (some ⟨gc, 0, none⟩) (i + 1) capc)) w.heap.size gl NL NL (upd (fun _ => .slice none 0 0) rt (.slice (some ⟨gc, 0, none⟩) (i + 1) capc)) (fun _ => .slice none 0 0)) := by
                        have h := (LsRow.kept HLB.out KC hgC2).setN hNLj (.slice (some ⟨gc, 0, none⟩) (i + 1) capc)
                        rwa [upd_upd] at h
                      have HVD : Hid ((wC.setCell ⟨gl, rt * 2, none⟩ (.slice (some ⟨gc, 0, none⟩) (i + 1) capc)).ownsRow w9.heap.size 32 1 (.slice (some ⟨gc, 0, none⟩) (i + 1) capc) (i + 1) ((((ysOf R).take (i + 1)).map (nmR R)).map (Value.int .u32))) := by
                        have h := rowK (S := fun k => k = gl) hownC KS (fun g h h2 => by have := (hownC.lt g h).1; omega)
                        show World.ownsRow _ _ _ _ _ _ _
                        rw [HNT.out, List.map_append]
                        exact h
                      have HKD : Hid (KpS (fun k => k = tb ∨ k = gl) w9 (wC.setCell ⟨gl, rt * 2, none⟩ (.slice (some ⟨gc, 0, none⟩) (i + 1) capc))) := (((HKB.out.mono (S' := fun k => (k = tb ∨ k = gl) ∨ w9.heap.size ≤ k) (fun k h => .inl h)).trans (KC.mono (fun k h => .inr (hvg k h)))).strip).trans (KS.mono (fun k h => .inr h))
                      clear ckC fkC KC KS hgBC hgC hownC k1 k2 k3 q9 f9 HVB HLB HTB HYB HKB hvg hblkC hltC
                      go_wp2
                      go_roundg (j - (i + 1))
                      case measure => omega
                      case rel => exact ⟨i + 1, _, _, by go_num, by omega, Nat.le_refl _, HTD, HYD, HLD, HVD, HKD⟩

                  · obtain rfl : i = j := by omega
                    have hoL := ysOf_len R
                    have hyl : (ysR R (ysOf R)).length = i := by simp [ysR, hoL]; omega
                    have HYX : Hid (wr.ownsRow w9.heap.size 2 1 yv i ((ysR R (ysOf R)).map (Value.int .i64))) := by
                      have h := HY1.out
                      rw [List.take_of_length_le (by omega)] at h
                      exact h
                    have HVX : Hid (wr.ownsRow w9.heap.size 32 1 vr i (((ysOf R).map (nmR R)).map (Value.int .u32))) := by
                      have h := HV1.out
                      rw [List.take_of_length_le (by omega)] at h
                      exact h
                    clear hoL hyl
                    go_wp2
                    go_meet
                    refine ⟨yv, upd (fun _ => .slice none 0 0) rt vr, HT1.out, HYX.out, HL1.out, HK1.out, ?_, ?_⟩
                    · intro k hk hne
                      exact upd_ne (by have := HRT.out; omega)
                    · intro _
                      show World.ownsRow _ _ _ _ _ _ _
                      rw [← HRT.out, upd_same]
                      exact HVX.out
            case rest =>
              obtain ⟨yv, LN0, HTc, HYc, HLc, HKc, HEc, HVc⟩ := hcut
              have hwf := ysOf_wf HRS.out.1 HRS.out.2
              have HW := Lib.hid hwf
              have hsc := HKc.out.size
              have hEl9 : Else w9 (fun k => k = tb ∨ k = gl) := fun k h1 h2 => by
                rcases h2 with h2 | h2
                · subst h2; exact ⟨_, _, _, HT9.out, by decide, by decide, by decide, by decide⟩
                · subst h2
                  rcases HL9.out.2 with ⟨e9, -⟩ | ⟨g, cap, cur, e9, -, hh, -⟩
                  · cases e9
                  · injection e9 with e9
                    injection e9 with e9
                    injection e9 with e9
                    subst e9
                    exact ⟨_, _, _, hh, by decide, by decide, by decide, by decide⟩
              have HRc := Lib.hid (HR9.out.kept HKc.out hEl9)
              have HXc : Hid (wc.ownsRow w.heap.size 2 1 (.slice xa j xc) j ((xsR R).map (Value.int .i64))) := rowK HX9.out HKc.out (fun g h h2 => by
                rcases h2 with h2 | h2
                · exact row_ne HX9.out HT9.out (by decide) g h h2.symm
                · subst h2; exact rows_ne HL9.out HX9.out (by decide) g rfl h)
              have HMc : Hid (wc.ownsMap Tryz.prog 32 (plainElem Tryz.prog 3) pm j D) := mapSame HM9.out (HKc.out.block pm hpm9 (fun h => by
                obtain ⟨es, ck, hh, -⟩ := HM9.out
                rcases h with h | h
                · subst h; have h9 := hh.symm.trans HT9.out; cases h9
                · subst h
                  rcases HL9.out.2 with ⟨e9, -⟩ | ⟨g, cap, cur, e9, -, hh2, -⟩
                  · cases e9
                  · injection e9 with e9
                    injection e9 with e9
                    injection e9 with e9
                    subst e9
                    rw [hh] at hh2; cases hh2))
              have HBc : Hid (Below w.heap.size w wc) := HB9.out.trans (HKc.out.toBelow HB9.out.size (fun k h => by rcases h with h | h <;> omega))
              have HSP0 : Hid (SpSt wc w9.heap.size j R (ysOf R) NL LN0 (fun _ => .slice none 0 0)) := by
                have hroot : ∀ t s, FT.At (nds j) t s → t.root s = 2 * j - 2 → nl (ysOf R) t = ysOf R := fun t s ha hr => by
                  have hj := nds_pos ha
                  obtain ⟨rfl, rfl⟩ := FT.At.unique ha (nds_at j hj) (by rw [nds_root hj, hr])
                  have h := hwf.top (by omega)
                  rwa [hRl] at h
                refine ⟨fun t s ha h2 => ?_, fun l r q ha h2 => ?_, fun l r q ha h2 => ?_, fun k h1 h2 => ?_, fun k h1 => rfl, fun k h1 g h2 => ?_, fun i k h1 h2 h3 g h4 h5 => ?_, fun i k h1 h2 h3 g h4 h5 => by cases h4⟩
                · rcases h2 with h2 | ⟨l, r, q, h3, h4, h5⟩
                  · rw [h2, hroot t s ha h2]
                    have := HVc.out (nds_pos ha)
                    rw [ysOf_len, hRl]
                    exact this
                  · have := h3.lt
                    omega
                · have hj := nds_pos ha
                  have h1 := FT.kid_ne_root (nds_eq hj ▸ ha)
                  rw [nds_root hj] at h1
                  have h3 := ha.left.lt
                  have h4 := ha.right.lt
                  exact ⟨HEc.out _ (by omega) h1.1, HEc.out _ (by omega) h1.2⟩
                · have := ha.lt
                  omega
                · omega
                · by_cases e : k = 2 * j - 2
                  · have hj : 0 < j := by rw [nds_len] at h1; omega
                    subst e
                    exact (HVc.out hj).lt g h2
                  · rw [HEc.out k (by omega) e] at h2; cases h2
                · by_cases e : i = 2 * j - 2
                  · rw [HEc.out k (by omega) (by omega)] at h5; cases h5
                  · rw [HEc.out i (by omega) e] at h4; cases h4
              have htc := HTc.out
              have c4 : wc.cell? ⟨tb, 4, none⟩ = some (.slice na NL nc) := by simp [World.cell?, htc]
              clear htc hwf hEl9 HR9 HX9 HM9 HB9 HH9 HEc HVc
              go_wp2_with fail
              go_loopg [15] NL (fun kx s15 wr => ∃ (m : Nat) (z : Int) (LN LL : Nat → Value), s15 = .int .i64 z ∧ z + 1 = (m : Int) ∧ m ≤ NL ∧ m ≤ kx ∧ Hid (LsRow wr w.heap.size gl NL NL LN LL) ∧ Hid (KpS (fun k => k = gl) wc wr) ∧ Hid (SpSt wr w9.heap.size j R (ysOf R) m LN LL))
              case atStart => exact ⟨NL, _, LN0, _, rfl, by omega, Nat.le_refl _, Nat.le_refl _, HLc, KpS.refl _ _, HSP0⟩
              case round =>
                obtain ⟨m, z, LN, LL, rfl, hz, hm, hkx4, HL4, HK4, HS4⟩ := hrel
                have hnds : (nds j).length = NL := hNN2
                by_cases hm0 : 0 < m
                · obtain ⟨k, rfl⟩ : ∃ k, m = k + 1 := ⟨m - 1, by omega⟩
                  obtain rfl : z = (k : Int) := by omega
                  obtain ⟨t, s, ha, hts⟩ := nds_get (j := j) (k := k) (by omega)
                  have hj := nds_pos ha
                  obtain ⟨gn, cn, e9, -, hgnl, -⟩ := ownRow_at HRc.out.nod (by omega)
                  injection e9 with e91 e92 e93
                  subst e91
                  have htc := HTc.out
                  have htg : tb ≠ gl := by omega
                  have hT4 := blkK HK4.out HTc.out (fun h => htg h)
                  have c4' : wr.cell? ⟨tb, 4, none⟩ = some (.slice (some ⟨gn, 0, none⟩) (nds j).length nc) := by rw [hnds]; simp [World.cell?, hT4]
                  have c5' : wr.cell? ⟨tb, 5, none⟩ = some (.slice (some ⟨gl, 0, none⟩) (nds j).length NL) := by rw [hnds]; simp [World.cell?, hT4]
                  have hgng : gn ≠ gl := fun h => rows_ne HLc.out HRc.out.nod (by decide) gl rfl (by rw [← h]; rfl)
                  have hnr4 : RdK eNd 7 wr (some ⟨gn, 0, none⟩) (nds j) := by
                    have hrr := rowK HRc.out.nod HK4.out (fun g h h2 => by have h9 := ownB h; omega)
                    obtain ⟨_, _, ee, -, -, h9⟩ := RdK.of_owns eNd_len (by decide) hrr
                    injection ee with e1 e2 e3
                    rw [← e1] at h9
                    exact h9
                  have hB94 : w9.heap.size ≤ wr.heap.size := by have := HK4.out.size; omega
                  have hL4 : LsRow wr w.heap.size gl (nds j).length NL LN LL := by rw [hnds]; exact HL4.out
                  have CSP : Calls Tryz.prog 64 #[.pointer (some ⟨tb, 0, none⟩), .int .i64 k, .map (some pm)] wr fun e w' => e = .returned (.tuple #[]) ∧ ∃ LN' LL', LsRow w' w.heap.size gl NL NL LN' LL' ∧ KpS (fun k => k = gl) wr w' ∧ SpSt w' w9.heap.size j R (ysOf R) k LN' LL' := by
                    cases t with
                    | leaf a =>
                      refine (casc_spread_leaf a s tb gn 0 nc gl NL w.heap.size k pm (nds j) LN LL wr ha hts (by omega) c4' hnr4 c5' hL4).mono ?_
                      rintro e w' ⟨rfl, vf, hvs, h1, h2, h3⟩
                      rw [hnds] at h1
                      exact ⟨rfl, LN, _, h1, h3, HS4.out.leaf HL4.out ha hts h3 hB94 hvs h2⟩
                    | node l r =>
                      have hcur := HS4.out.cur ha (by omega)
                      rw [hts] at hcur
                      obtain ⟨an, cnn, eL, -, -, hrd⟩ := Rd.of_owns hcur
                      rw [List.length_map] at eL
                      have hkk := FT.kids_ne l r s
                      obtain ⟨em1, em2⟩ := HS4.out.emp l r s ha (by omega)
                      have hwfT : ∀ p, p ∈ (mkT 0 j).subs 0 → p.1.wf := fun p hp => FT.subs_wf _ _ (mkT_spec 0 j hj).1 p hp
                      have hwfn := hwfT _ (FT.at_mem (nds_eq hj ▸ ha))
                      have hmemj : ∀ i, i ∈ nl (ysOf R) (.node l r) → i < j := fun i hi => by
                        have := HW.out.lt (List.mem_filter.1 hi).1
                        omega
                      have hhi := FT.subs_hi _ 0 (mkT_spec 0 j hj).1 _ (FT.at_mem (nds_eq hj ▸ ha))
                      have hhi3 : (FT.node l r).hi ≤ (mkT 0 j).hi := hhi
                      have hhi2 := (mkT_spec 0 j hj).2.2
                      have hlr : l.hi ≤ (FT.node l r).hi := by have := FT.lo_hi r hwfn.2.1; have := hwfn.2.2; show l.hi ≤ r.hi; omega
                      have hln : (nl (ysOf R) (.node l r)).length ≤ (ysOf R).length := List.length_filter_le _ _
                      rw [ysOf_len] at hln
                      have hmap : wr.ownsMap Tryz.prog 32 (plainElem Tryz.prog 3) pm j D := mapSame HMc.out (HK4.out.block pm (by omega) (fun h => by
                        obtain ⟨es, ck, hh, -⟩ := HMc.out
                        subst h
                        rcases HLc.out.2 with ⟨e9, -⟩ | ⟨g, cap, cur, e9, -, hh2, -⟩
                        · cases e9
                        · injection e9 with e9
                          injection e9 with e9
                          injection e9 with e9
                          subst e9
                          rw [hh] at hh2; cases hh2))
                      refine (casc_spread_node l r s tb gn 0 nc gl NL w.heap.size k (l.root s) (r.root (s + l.size)) l.hi pm j (nds j) LN LL (nl (ysOf R) (.node l r)) (nmR R) an cnn D wr ha hts rfl rfl rfl (by omega) (by omega) c4' hnr4 c5' hL4 ⟨hgng, htg, fun b o e => ?_⟩ eL hrd (by omega) em1 em2 hmap (fun i hi => ?_) (fun i hi => ?_) (fun i hi => by have := hmemj i hi; omega)).mono ?_
                      · intro h
                        subst h
                        exact rows_ne HL4.out hcur (by decide) b rfl (by rw [eL, e]; rfl)
                      · obtain ⟨sm, hm⟩ := HPD.out
                        have h9 := (hm.2.2.2.2 (nmR R i)).2 (.lit (.int .i64 0))
                        rw [h9]
                        have h8 := placeF_get HRS.out.2 j (by omega) i (hmemj i hi)
                        have h7 : placeF R j (nmR R i) = some (i : Int) := h8
                        rw [h7]
                      · have hil : i < R.length := by have := hmemj i hi; omega
                        have h8 : ptAt R i = R[i] := by simp [ptAt, hil]
                        unfold nmR
                        rw [h8]
                        exact HWF.out _ (List.getElem_mem hil)
                      · rintro e w' ⟨rfl, vl, vr, vf, h1, h2, h3, h4, h5, h6⟩
                        rw [hnds] at h1
                        exact ⟨rfl, _, _, h1, h6, HS4.out.node HL4.out ha hwfn hts h6 hB94 h2 h3 h4 h5⟩
                  have HCSP := Lib.hid CSP
                  clear CSP hL4 hnr4 hT4 c4' c5' htc hgng e92 e93
                  go_wp2_with fail
                  refine HCSP.out.mono ?_
                  rintro e w' ⟨rfl, LN', LL', h1, h2, h3⟩
                  have H1 := Lib.hid h1
                  have H2 : Hid (KpS (fun k => k = gl) wc w') := HK4.out.trans h2
                  have H3 := Lib.hid h3
                  clear h1 h2 h3 HCSP
                  go_wp2
                  go_roundg k
                  case measure => omega
                  case rel => exact ⟨k, (k : Int) - 1, LN', LL', by go_num, by omega, by omega, Nat.le_refl _, H1, H2, H3⟩
                · obtain rfl : m = 0 := by omega
                  obtain rfl : z = -1 := by omega
                  have hsr := HK4.out.size
                  have hRr : BldR wr w.heap.size fb j (.slice ra j rc) gv (.slice na NL nc) fv R := HRc.out.kept HK4.out (fun k h1 h2 => by
                    subst h2
                    rcases HLc.out.2 with ⟨e9, -⟩ | ⟨g, cap, cur, e9, -, hh, -⟩
                    · cases e9
                    · injection e9 with e9
                      injection e9 with e9
                      injection e9 with e9
                      subst e9
                      exact ⟨_, _, _, hh, by decide, by decide, by decide, by decide⟩)
                  have hXr := rowK HXc.out HK4.out (fun g h h2 => by subst h2; exact rows_ne HLc.out HXc.out (by decide) g rfl h)
                  have hYr := rowK HYc.out HK4.out (fun g h h2 => by subst h2; exact rows_ne HLc.out HYc.out (by decide) g rfl h)
                  have htg : tb ≠ gl := by omega
                  have hTr := blkK HK4.out HTc.out (fun h => htg h)
                  have hBr : Below w.heap.size w wr := HBc.out.trans (HK4.out.toBelow HBc.out.size (fun k h => by omega))
                  have hLr := HL4.out
                  have hoL := ysOf_len R
                  have H9 : Hid (CscAt wr w.heap.size wr.heap.size tb fb R (List.replicate R.length false) (ysOf R) ⟨.slice ra j rc, .slice xa j xc, gv, .slice na NL nc, .slice (some ⟨gl, 0, none⟩) NL NL, yv, fv, LN, LL⟩ ∧ Below w.heap.size w wr) := by
                    have e1 : R.length = j := hRl
                    have hfl := (Array.getElem?_eq_some_iff.1 hRr.frm.blk).1
                    have htl9 := (Array.getElem?_eq_some_iff.1 hTr).1
                    refine ⟨⟨?_, ⟨htb, htl9, hRr.lof, hfl, Nat.le_refl _⟩, ?_, ?_, ?_, ?_, ?_, ?_, ?_, ?_, ?_, ?_, ?_, ?_, ?_, ?_, ?_⟩, hBr⟩
                    · rw [hoL, e1]; exact hTr
                    · rw [e1]; exact hRr.row
                    · rw [e1]; exact hXr
                    · rw [e1]; exact hRr.gon
                    · rw [e1]; exact hRr.frm
                    · rw [e1, hnds]; have h := hRr.nod; rw [hnds] at h; exact h
                    · rw [e1, hnds]; exact hLr
                    · rw [hoL, e1]; exact rowMono hYr (by omega)
                    · intro t s ha
                      rw [e1] at ha
                      exact rowMono (HS4.out.all ha) (by omega)
                    · intro l r s ha
                      rw [e1] at ha
                      exact rowMono (HS4.out.lef l r s ha (Nat.zero_le _)) (by omega)
                    · intro k hk
                      rw [e1] at hk
                      exact (HS4.out.sli k hk (Nat.zero_le _)).1
                    · intro v hv g hg
                      rcases hv with rfl | rfl | rfl | rfl | rfl | rfl | rfl
                      · exact (hRr.row.lt g hg).2
                      · exact (hXr.lt g hg).2
                      · exact (hRr.gon.lt g hg).2
                      · exact (hRr.nod.lt g hg).2
                      · exact (hLr.lt g hg).2
                      · exact (hYr.lt g hg).2
                      · exact (hRr.frm.row.lt g hg).2
                    · intro k hk
                      rw [e1] at hk
                      exact ⟨fun g hg => (HS4.out.blkN k hk g hg).2, fun g hg => ((HS4.out.sli k hk (Nat.zero_le _)).2 g hg).2⟩
                    · intro g hg h2
                      have a1 := HXV9.out g hg
                      have a2 := (hYr.lt g h2).1
                      omega
                    · intro i k h1 h2 h3
                      rw [e1] at h1 h2
                      exact HS4.out.neN i k h1 h2 h3
                    · intro i k h1 h2 h3
                      rw [e1] at h1 h2
                      exact HS4.out.neL i k h1 h2 h3
                  clear hRr hXr hYr hTr hBr hLr hoL
                  go_wp2
                  go_ret2
                  rw [HRR.out]
                  exact ⟨tb, fb, _, rfl, H9.out.1, H9.out.2⟩

end Go.Proofs.YtggfdlanobndjaaGreat

/- A cascade while a point is dropped: each row by its own contents. No function of the program is walked here. -/
namespace Go.Proofs.YtggfdlanobndjaaGreat
open Go.RowKit Go.Sort Go.Shelf Go.Lib Go.Maps
set_option linter.unusedSimpArgs false
set_option linter.unusedVariables false

def updA {α : Type} (f : Nat → α) (k : Nat) (v : α) : Nat → α := fun j => if j = k then v else f j
theorem updA_same {α : Type} (f : Nat → α) (k : Nat) (v : α) : updA f k v k = v := by simp [updA]
theorem updA_ne {α : Type} {f : Nat → α} {k j : Nat} {v : α} (h : j ≠ k) : updA f k v j = f j := by simp [updA, h]

/-- nc: whose names a node has; lc: its counts -/
structure CscM (w : World) (lo hi tb fb : Nat) (R : List Pt) (gone : List Bool) (cnt : Nat) (yy : List Nat) (nc : Nat → List Nat) (lc : Nat → List Int) (V : CscV) : Prop where
  blk : w.heap[tb]? = some (cscB V.rv V.xv V.gv fb V.nv V.lv V.yv cnt)
  tbr : lo ≤ tb ∧ tb < hi ∧ lo ≤ fb ∧ fb < hi ∧ hi ≤ w.heap.size
  row : w.ownsRow lo 34 3 V.rv R.length (R.flatMap ePt)
  xs : w.ownsRow lo 2 1 V.xv R.length ((xsR R).map (Value.int .i64))
  gon : w.ownsRow lo 4 1 V.gv R.length (gone.map Value.bool)
  frm : FrmAt w lo fb R.length V.fv
  nod : w.ownsRow lo 119 7 V.nv (nds R.length).length ((nds R.length).flatMap eNd)
  lst : w.ownsRow lo 112 2 V.lv (nds R.length).length (lsF V.LN V.LL (nds R.length).length)
  ys : w.ownsRow lo 2 1 V.yv yy.length ((ysR R yy).map (Value.int .i64))
  nam : ∀ k, k < (nds R.length).length → w.ownsRow lo 32 1 (V.LN k) (nc k).length (((nc k).map (nmR R)).map (Value.int .u32))
  lef : ∀ l r s, FT.At (nds R.length) (.node l r) s → w.ownsRow lo 3 1 (V.LL ((FT.node l r).root s)) (lc ((FT.node l r).root s)).length ((lc ((FT.node l r).root s)).map (Value.int .i64))
  sli : ∀ k, k < (nds R.length).length → ∃ a m c, V.LL k = .slice a m c
  top : ∀ v, v = V.rv ∨ v = V.xv ∨ v = V.gv ∨ v = V.nv ∨ v = V.lv ∨ v = V.yv ∨ v = V.fv → ∀ g, v.ownBlock = some g → g < hi
  topL : ∀ k, k < (nds R.length).length → (∀ g, (V.LN k).ownBlock = some g → g < hi) ∧ ∀ g, (V.LL k).ownBlock = some g → g < hi
  neX : ∀ g, V.xv.ownBlock = some g → V.yv.ownBlock ≠ some g
  neN : ∀ i k, i < (nds R.length).length → k < (nds R.length).length → i ≠ k → ∀ g, (V.LN i).ownBlock = some g → (V.LN k).ownBlock ≠ some g
  neL : ∀ i k, i < (nds R.length).length → k < (nds R.length).length → i ≠ k → ∀ g, (V.LL i).ownBlock = some g → (V.LL k).ownBlock ≠ some g

/-- a row of kind e is kept when one block of another kind is written -/
theorem rowT {w w' : World} {g base : Nat} {cs : Array Value} {t : TypeId} {fr : Nat × Nat} {e : TypeId} {sz : Nat} {v : Value} {n : Nat} {xs : List Value} (h : w.ownsRow base e sz v n xs) (K : KpS (fun k => k = g) w w') (hg : w.heap[g]? = some (.cells cs t fr)) (ht : t ≠ e) : w'.ownsRow base e sz v n xs :=
  rowE h K fun k h1 h2 => by subst h2; exact ⟨_, _, _, hg, ht⟩
theorem rowO {w w' : World} {g base : Nat} {e : TypeId} {sz : Nat} {v : Value} {n : Nat} {xs : List Value} (h : w.ownsRow base e sz v n xs) (K : KpS (fun k => k = g) w w') (hg : v.ownBlock ≠ some g) : w'.ownsRow base e sz v n xs :=
  rowK h K fun k h1 h2 => by subst h2; exact hg h1
theorem frmT {w w' : World} {g base fb n : Nat} {fv : Value} {cs : Array Value} {t : TypeId} {fr : Nat × Nat} (h : FrmAt w base fb n fv) (K : KpS (fun k => k = g) w w') (hg : w.heap[g]? = some (.cells cs t fr)) (h1 : t ≠ 149) (h2 : t ≠ 119) : FrmAt w' base fb n fv :=
  ⟨blkK K h.blk fun e => by subst e; have h9 := hg.symm.trans h.blk; injection h9 with h9; injection h9 with _ h9 _; exact h1 h9, rowT h.row K hg h2⟩
theorem blkT {w w' : World} {g b : Nat} {cs cs' : Array Value} {t t' : TypeId} {fr fr' : Nat × Nat} (h : w.heap[b]? = some (.cells cs' t' fr')) (K : KpS (fun k => k = g) w w') (hg : w.heap[g]? = some (.cells cs t fr)) (h1 : t ≠ t') : w'.heap[b]? = some (.cells cs' t' fr') :=
  blkK K h fun e => by subst e; have h9 := hg.symm.trans h; injection h9 with h9; injection h9 with _ h9 _; exact h1 h9

theorem ownBlk {w : World} {base g n c : Nat} {e : TypeId} {sz m : Nat} {xs : List Value} (h : w.ownsRow base e sz (.slice (some ⟨g, 0, none⟩) n c) m xs) : ∃ cs fr, w.heap[g]? = some (.cells cs e fr) := by
  rcases h.2 with ⟨e9, -⟩ | ⟨g', cap, cur, e9, -, hh, -⟩
  · cases e9
  · injection e9 with e9
    injection e9 with e9
    injection e9 with e9
    subst e9
    exact ⟨_, _, hh⟩

section
variable {w w' : World} {lo hi tb fb : Nat} {R : List Pt} {gone : List Bool} {cnt : Nat} {yy : List Nat} {nc : Nat → List Nat} {lc : Nat → List Int} {V : CscV}

/-- what is fresh is no concern of the tree -/
theorem CscM.kept {S : Nat → Prop} (h : CscM w lo hi tb fb R gone cnt yy nc lc V) (K : KpS S w w') (hS : ∀ k, lo ≤ k → k < hi → ¬ S k) : CscM w' lo hi tb fb R gone cnt yy nc lc V := by
  have ht := h.top
  have hr : ∀ {e : TypeId} {sz : Nat} {v : Value} {n : Nat} {xs : List Value}, w.ownsRow lo e sz v n xs → (∀ g, v.ownBlock = some g → g < hi) → w'.ownsRow lo e sz v n xs := fun hr hv => rowK hr K fun g e => hS g (hr.lt g e).1 (hv g e)
  exact ⟨blkK K h.blk (hS tb h.tbr.1 h.tbr.2.1), ⟨h.tbr.1, h.tbr.2.1, h.tbr.2.2.1, h.tbr.2.2.2.1, Nat.le_trans h.tbr.2.2.2.2 K.size⟩,
    hr h.row (ht _ (by simp)), hr h.xs (ht _ (by simp)), hr h.gon (ht _ (by simp)),
    ⟨blkK K h.frm.blk (hS fb h.tbr.2.2.1 h.tbr.2.2.2.1), hr h.frm.row (ht _ (by simp))⟩, hr h.nod (ht _ (by simp)), hr h.lst (ht _ (by simp)), hr h.ys (ht _ (by simp)),
    fun k hk => hr (h.nam k hk) (h.topL k hk).1, fun l r s ha => hr (h.lef l r s ha) (h.topL _ ha.lt).2, h.sli, h.top, h.topL, h.neX, h.neN, h.neL⟩
theorem CscM.below {B : Nat} (h : CscM w lo hi tb fb R gone cnt yy nc lc V) (hb : Below B w w') (hB : hi ≤ B) : CscM w' lo hi tb fb R gone cnt yy nc lc V :=
  h.kept (S := fun k => hi ≤ k) ⟨hb.os, hb.tape, hb.output, hb.size, fun k hk hn => hb.block k (by omega)⟩ fun k h1 h2 h3 => by omega

/-- the count is set -/
theorem CscM.setCnt (h : CscM w lo hi tb fb R gone cnt yy nc lc V) (m : Nat) : CscM (w.setCell ⟨tb, 7, none⟩ (.int .i64 m)) lo hi tb fb R gone m yy nc lc V := by
  have K : KpS (fun k => k = tb) w (w.setCell ⟨tb, 7, none⟩ (.int .i64 m)) := (KpS.refl (fun k => k = tb) w).set (a := ⟨tb, 7, none⟩) _ (.inl rfl)
  have hg := h.blk
  exact ⟨heap_setCell_same w tb 7 _ _ _ h.blk, by simpa using h.tbr, rowT h.row K hg (by decide), rowT h.xs K hg (by decide), rowT h.gon K hg (by decide), frmT h.frm K hg (by decide) (by decide), rowT h.nod K hg (by decide), rowT h.lst K hg (by decide), rowT h.ys K hg (by decide),
    fun k hk => rowT (h.nam k hk) K hg (by decide), fun l r s ha => rowT (h.lef l r s ha) K hg (by decide), h.sli, h.top, h.topL, h.neX, h.neN, h.neL⟩

/-- one is marked as gone -/
theorem CscM.setGone (h : CscM w lo hi tb fb R gone cnt yy nc lc V) {g n c : Nat} (hv : V.gv = .slice (some ⟨g, 0, none⟩) n c) (i : Nat) : CscM (w.setCell ⟨g, i, none⟩ (.bool true)) lo hi tb fb R (gone.set i true) cnt yy nc lc V := by
  have K : KpS (fun k => k = g) w (w.setCell ⟨g, i, none⟩ (.bool true)) := (KpS.refl (fun k => k = g) w).set (a := ⟨g, i, none⟩) _ (.inl rfl)
  have hgo := h.gon
  rw [hv] at hgo
  obtain ⟨cs, fr, hg⟩ := ownBlk hgo
  refine ⟨blkT h.blk K hg (by decide), by simpa using h.tbr, rowT h.row K hg (by decide), rowT h.xs K hg (by decide), ?_, frmT h.frm K hg (by decide) (by decide), rowT h.nod K hg (by decide), rowT h.lst K hg (by decide), rowT h.ys K hg (by decide),
    fun k hk => rowT (h.nam k hk) K hg (by decide), fun l r s ha => rowT (h.lef l r s ha) K hg (by decide), h.sli, h.top, h.topL, h.neX, h.neN, h.neL⟩
  rw [hv, List.map_set]
  have hn : n = R.length := by
    rcases hgo.2 with ⟨e9, -⟩ | ⟨g', cap, cur, e9, -⟩
    · cases e9
    · injection e9 with _ e9 _
  subst hn
  exact (hgo.stored i (.bool true)).1

/-- the root's Ys are written anew -/
theorem CscM.setYs (h : CscM w lo hi tb fb R gone cnt yy nc lc V) {g n c n' : Nat} (hv : V.yv = .slice (some ⟨g, 0, none⟩) n c) (K : KpS (fun k => k = g) w w') {yy' : List Nat} (hrow : w'.ownsRow lo 2 1 (.slice (some ⟨g, 0, none⟩) n' c) yy'.length ((ysR R yy').map (Value.int .i64))) :
    CscM (w'.setCell ⟨tb, 6, none⟩ (.slice (some ⟨g, 0, none⟩) n' c)) lo hi tb fb R gone cnt yy' nc lc { V with yv := .slice (some ⟨g, 0, none⟩) n' c } := by
  have hys := h.ys
  rw [hv] at hys
  obtain ⟨cs, fr, hg⟩ := ownBlk hys
  have ht := blkT h.blk K hg (by decide)
  have K2 : KpS (fun k => k = tb) w' (w'.setCell ⟨tb, 6, none⟩ (.slice (some ⟨g, 0, none⟩) n' c)) := (KpS.refl (fun k => k = tb) w').set (a := ⟨tb, 6, none⟩) _ (.inl rfl)
  have hx := h.xs
  have hne : V.xv.ownBlock ≠ some g := fun e => h.neX g e (by rw [hv]; rfl)
  have two : ∀ {e : TypeId} {sz : Nat} {v : Value} {m : Nat} {xs : List Value}, w.ownsRow lo e sz v m xs → 2 ≠ e → 110 ≠ e → (w'.setCell ⟨tb, 6, none⟩ (.slice (some ⟨g, 0, none⟩) n' c)).ownsRow lo e sz v m xs := fun hr h1 h2 => rowT (rowT hr K hg h1) K2 ht h2
  refine ⟨heap_setCell_same w' tb 6 _ _ _ ht, ?_, two h.row (by decide) (by decide), rowT (rowO hx K hne) K2 ht (by decide), two h.gon (by decide) (by decide), frmT (frmT h.frm K hg (by decide) (by decide)) K2 ht (by decide) (by decide), two h.nod (by decide) (by decide), two h.lst (by decide) (by decide), rowT hrow K2 ht (by decide),
    fun k hk => two (h.nam k hk) (by decide) (by decide), fun l r s ha => two (h.lef l r s ha) (by decide) (by decide), h.sli, ?_, h.topL, ?_, h.neN, h.neL⟩
  · have := h.tbr; have := K.size; simp; omega
  · intro v hv2 g2 hg2
    rcases hv2 with e | e | e | e | e | e | e
    · exact h.top v (.inl e) g2 hg2
    · exact h.top v (.inr (.inl e)) g2 hg2
    · exact h.top v (.inr (.inr (.inl e))) g2 hg2
    · exact h.top v (.inr (.inr (.inr (.inl e)))) g2 hg2
    · exact h.top v (.inr (.inr (.inr (.inr (.inl e))))) g2 hg2
    · exact h.top V.yv (by simp) g2 (by rw [hv]; rw [e] at hg2; exact hg2)
    · exact h.top v (.inr (.inr (.inr (.inr (.inr (.inr e)))))) g2 hg2
  · intro g2 h1 h2
    exact h.neX g2 h1 (by rw [hv]; exact h2)

/-- a node's names are written anew -/
theorem CscM.setNam (h : CscM w lo hi tb fb R gone cnt yy nc lc V) {k g n c n' gl nl cl : Nat} (hk : k < (nds R.length).length) (hv : V.LN k = .slice (some ⟨g, 0, none⟩) n c) (hl : V.lv = .slice (some ⟨gl, 0, none⟩) nl cl) (K : KpS (fun k => k = g) w w') {L' : List Nat} (hrow : w'.ownsRow lo 32 1 (.slice (some ⟨g, 0, none⟩) n' c) L'.length ((L'.map (nmR R)).map (Value.int .u32))) :
    CscM (w'.setCell ⟨gl, k * 2, none⟩ (.slice (some ⟨g, 0, none⟩) n' c)) lo hi tb fb R gone cnt yy (updA nc k L') lc { V with LN := upd V.LN k (.slice (some ⟨g, 0, none⟩) n' c) } := by
  have hna := h.nam k hk
  rw [hv] at hna
  obtain ⟨cs, fr, hg⟩ := ownBlk hna
  have hls := h.lst
  rw [hl] at hls
  have hnl : nl = (nds R.length).length := by
    rcases hls.2 with ⟨e9, -⟩ | ⟨g', cap, cur, e9, -⟩
    · cases e9
    · injection e9 with _ e9 _
  subst hnl
  have hls2 := rowT hls K hg (by decide)
  obtain ⟨cs2, fr2, hg2⟩ := ownBlk hls2
  have K2 : KpS (fun k => k = gl) w' (w'.setCell ⟨gl, k * 2, none⟩ (.slice (some ⟨g, 0, none⟩) n' c)) := (KpS.refl (fun k => k = gl) w').set (a := ⟨gl, k * 2, none⟩) _ (.inl rfl)
  have two : ∀ {e : TypeId} {sz : Nat} {v : Value} {m : Nat} {xs : List Value}, w.ownsRow lo e sz v m xs → 32 ≠ e → 112 ≠ e → (w'.setCell ⟨gl, k * 2, none⟩ (.slice (some ⟨g, 0, none⟩) n' c)).ownsRow lo e sz v m xs := fun hr h1 h2 => rowT (rowT hr K hg h1) K2 hg2 h2
  refine ⟨blkT (blkT h.blk K hg (by decide)) K2 hg2 (by decide), ?_, two h.row (by decide) (by decide), two h.xs (by decide) (by decide), two h.gon (by decide) (by decide), frmT (frmT h.frm K hg (by decide) (by decide)) K2 hg2 (by decide) (by decide), two h.nod (by decide) (by decide), ?_, two h.ys (by decide) (by decide),
    fun k' hk' => ?_, fun l r s ha => two (h.lef l r s ha) (by decide) (by decide), h.sli, h.top, fun k' hk' => ⟨fun g' hg' => ?_, (h.topL k' hk').2⟩, h.neX, fun i i' h1 h2 h3 g' h4 h5 => ?_, h.neL⟩
  · have := h.tbr; have := K.size; simp; omega
  · show World.ownsRow _ _ _ _ V.lv _ _
    rw [hl]
    exact LsRow.setN hls2 hk _
  · by_cases e : k' = k
    · subst e
      rw [updA_same]
      show World.ownsRow _ _ _ _ (upd V.LN k' _ k') _ _
      rw [upd_same]
      exact rowT hrow K2 hg2 (by decide)
    · rw [updA_ne e]
      show World.ownsRow _ _ _ _ (upd V.LN k _ k') _ _
      rw [upd_ne e]
      exact rowT (rowO (h.nam k' hk') K (fun h9 => h.neN k k' hk hk' (Ne.symm e) g (by rw [hv]; rfl) h9)) K2 hg2 (by decide)
  · by_cases e : k' = k
    · subst e
      have hg' : (upd V.LN k' (.slice (some ⟨g, 0, none⟩) n' c) k').ownBlock = some g' := hg'
      rw [upd_same] at hg'
      exact (h.topL k' hk').1 g' (by rw [hv]; exact hg')
    · have hg' : (upd V.LN k (.slice (some ⟨g, 0, none⟩) n' c) k').ownBlock = some g' := hg'
      rw [upd_ne e] at hg'
      exact (h.topL k' hk').1 g' hg'
  · have own : ∀ i, (upd V.LN k (.slice (some ⟨g, 0, none⟩) n' c) i).ownBlock = (V.LN i).ownBlock := fun i => by
      by_cases e : i = k
      · subst e; rw [upd_same, hv]; rfl
      · rw [upd_ne e]
    have h4 : (upd V.LN k (.slice (some ⟨g, 0, none⟩) n' c) i).ownBlock = some g' := h4
    have h5 : (upd V.LN k (.slice (some ⟨g, 0, none⟩) n' c) i').ownBlock = some g' := h5
    rw [own] at h4 h5
    exact h.neN i i' h1 h2 h3 g' h4 h5

/-- a node's counts are written anew; its header too -/
theorem CscM.setLef (h : CscM w lo hi tb fb R gone cnt yy nc lc V) {l0 r0 : FT} {s0 k g n c n' gl nl cl : Nat} (ha0 : FT.At (nds R.length) (.node l0 r0) s0) (hk0 : (FT.node l0 r0).root s0 = k) (hv : V.LL k = .slice (some ⟨g, 0, none⟩) n c) (hl : V.lv = .slice (some ⟨gl, 0, none⟩) nl cl) (K : KpS (fun k => k = g) w w') {L' : List Int} (hrow : w'.ownsRow lo 3 1 (.slice (some ⟨g, 0, none⟩) n' c) L'.length (L'.map (Value.int .i64))) :
    CscM (w'.setCell ⟨gl, k * 2 + 1, none⟩ (.slice (some ⟨g, 0, none⟩) n' c)) lo hi tb fb R gone cnt yy nc (updA lc k L') { V with LL := upd V.LL k (.slice (some ⟨g, 0, none⟩) n' c) } := by
  have hk : k < (nds R.length).length := hk0 ▸ ha0.lt
  have hna := h.lef l0 r0 s0 ha0
  rw [hk0, hv] at hna
  obtain ⟨cs, fr, hg⟩ := ownBlk hna
  have hls := h.lst
  rw [hl] at hls
  have hnl : nl = (nds R.length).length := by
    rcases hls.2 with ⟨e9, -⟩ | ⟨g', cap, cur, e9, -⟩
    · cases e9
    · injection e9 with _ e9 _
  subst hnl
  have hls2 := rowT hls K hg (by decide)
  obtain ⟨cs2, fr2, hg2⟩ := ownBlk hls2
  have K2 : KpS (fun k => k = gl) w' (w'.setCell ⟨gl, k * 2 + 1, none⟩ (.slice (some ⟨g, 0, none⟩) n' c)) := (KpS.refl (fun k => k = gl) w').set (a := ⟨gl, k * 2 + 1, none⟩) _ (.inl rfl)
  have two : ∀ {e : TypeId} {sz : Nat} {v : Value} {m : Nat} {xs : List Value}, w.ownsRow lo e sz v m xs → 3 ≠ e → 112 ≠ e → (w'.setCell ⟨gl, k * 2 + 1, none⟩ (.slice (some ⟨g, 0, none⟩) n' c)).ownsRow lo e sz v m xs := fun hr h1 h2 => rowT (rowT hr K hg h1) K2 hg2 h2
  have own : ∀ i, (upd V.LL k (.slice (some ⟨g, 0, none⟩) n' c) i).ownBlock = (V.LL i).ownBlock := fun i => by
    by_cases e : i = k
    · subst e; rw [upd_same, hv]; rfl
    · rw [upd_ne e]
  refine ⟨blkT (blkT h.blk K hg (by decide)) K2 hg2 (by decide), ?_, two h.row (by decide) (by decide), two h.xs (by decide) (by decide), two h.gon (by decide) (by decide), frmT (frmT h.frm K hg (by decide) (by decide)) K2 hg2 (by decide) (by decide), two h.nod (by decide) (by decide), ?_, two h.ys (by decide) (by decide),
    fun k' hk' => two (h.nam k' hk') (by decide) (by decide), fun l r s ha => ?_, fun k' hk' => ?_, h.top, fun k' hk' => ⟨(h.topL k' hk').1, fun g' hg' => ?_⟩, h.neX, h.neN, fun i i' h1 h2 h3 g' h4 h5 => ?_⟩
  · have := h.tbr; have := K.size; simp; omega
  · show World.ownsRow _ _ _ _ V.lv _ _
    rw [hl]
    exact LsRow.setL hls2 hk _
  · have hlt := ha.lt
    generalize hkk : (FT.node l r).root s = k' at *
    by_cases e : k' = k
    · subst e
      rw [updA_same]
      show World.ownsRow _ _ _ _ (upd V.LL k' _ k') _ _
      rw [upd_same]
      exact rowT hrow K2 hg2 (by decide)
    · rw [updA_ne e]
      show World.ownsRow _ _ _ _ (upd V.LL k _ k') _ _
      rw [upd_ne e]
      have h9 := h.lef l r s ha
      rw [hkk] at h9
      exact rowT (rowO h9 K (fun h9 => h.neL k k' hk hlt (Ne.symm e) g (by rw [hv]; rfl) h9)) K2 hg2 (by decide)
  · show ∃ a m c', upd V.LL k _ k' = _
    by_cases e : k' = k
    · subst e; rw [upd_same]; exact ⟨_, _, _, rfl⟩
    · rw [upd_ne e]; exact h.sli k' hk'
  · have hg' : (upd V.LL k (.slice (some ⟨g, 0, none⟩) n' c) k').ownBlock = some g' := hg'
    rw [own] at hg'
    exact (h.topL k' hk').2 g' hg'
  · have h4 : (upd V.LL k (.slice (some ⟨g, 0, none⟩) n' c) i).ownBlock = some g' := h4
    have h5 : (upd V.LL k (.slice (some ⟨g, 0, none⟩) n' c) i').ownBlock = some g' := h5
    rw [own] at h4 h5
    exact h.neL i i' h1 h2 h3 g' h4 h5

/-- one of a node's counts is set -/
theorem CscM.setOne (h : CscM w lo hi tb fb R gone cnt yy nc lc V) {l0 r0 : FT} {s0 k g c j : Nat} (ha0 : FT.At (nds R.length) (.node l0 r0) s0) (hk0 : (FT.node l0 r0).root s0 = k) (hv : V.LL k = .slice (some ⟨g, 0, none⟩) (lc k).length c) (x : Int) :
    CscM (w.setCell ⟨g, j, none⟩ (.int .i64 x)) lo hi tb fb R gone cnt yy nc (updA lc k ((lc k).set j x)) V := by
  have hk : k < (nds R.length).length := hk0 ▸ ha0.lt
  have hna := h.lef l0 r0 s0 ha0
  rw [hk0, hv] at hna
  obtain ⟨cs, fr, hg⟩ := ownBlk hna
  have K : KpS (fun k => k = g) w (w.setCell ⟨g, j, none⟩ (.int .i64 x)) := (KpS.refl (fun k => k = g) w).set (a := ⟨g, j, none⟩) _ (.inl rfl)
  refine ⟨blkT h.blk K hg (by decide), by simpa using h.tbr, rowT h.row K hg (by decide), rowT h.xs K hg (by decide), rowT h.gon K hg (by decide), frmT h.frm K hg (by decide) (by decide), rowT h.nod K hg (by decide), rowT h.lst K hg (by decide), rowT h.ys K hg (by decide),
    fun k' hk' => rowT (h.nam k' hk') K hg (by decide), fun l r s ha => ?_, h.sli, h.top, h.topL, h.neX, h.neN, h.neL⟩
  have hlt := ha.lt
  have h9 := h.lef l r s ha
  generalize hkk : (FT.node l r).root s = k' at *
  by_cases e : k' = k
  · subst e
    rw [updA_same, hv, List.length_set, List.map_set]
    exact (hna.stored j (.int .i64 x)).1
  · rw [updA_ne e]
    exact rowO h9 K (fun h9 => h.neL k k' hk hlt (Ne.symm e) g (by rw [hv]; rfl) h9)
end
end Go.Proofs.YtggfdlanobndjaaGreat
