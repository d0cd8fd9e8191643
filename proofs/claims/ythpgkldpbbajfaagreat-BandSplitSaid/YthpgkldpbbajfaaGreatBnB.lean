/- band.unlike, band.Build. -/
import Derived.Test.YthpgkldpbbajfaaGreatBnL
import Derived.Test.YthpgkldpbbajfaaGreatQ5
import Derived.Deep.CutBlock
import Derived.Deep.CutRange
import Derived.Deep.LoopGhost
import Derived.Maps.OwnOps
namespace Go.Proofs.YthpgkldpbbajfaaGreat
open Go.RowKit Go.Sort Go.Shelf Go.Lib Go.Maps
attribute [local irreducible] wpQuiet
attribute [local go_sem] Oper.still1
set_option linter.unusedSimpArgs false
set_option linter.unusedVariables false

set_option maxRecDepth 100000 in
set_option maxHeartbeats 2000000 in
theorem band_unlike (a : Option Addr) (c : Nat) (l : List Pt) (w : World) (hl : RdK ePt 3 w a l) (hn : l.length ≤ 1000000) (hw : wfN l) :
    Calls Tryz.prog 64 #[.slice a l.length c] w fun e w' => e = .returned (.bool (unl l)) ∧ Below w.heap.size w w' := by
  have HR := Lib.hid hl
  have HW := Lib.hid hw
  clear hl hw
  have hmm := @run_makeMap Tryz.prog
  go_enter Tryz.func64, Tryz.ntmps64
  go_wp2
  go_loopw [9] (fun iv wr => ∃ i : Nat, iv = .int .i64 i ∧ i ≤ l.length ∧ Below w.heap.size w wr ∧ Hid (∃ (D : DataW Unit), wr.ownsMap Tryz.prog 32 (plainElem Tryz.prog 3) w.heap.size i D ∧ PlcAt D l i)) (fun iv _ => l.length - (intOf iv).toNat)
  case atStart => exact ⟨0, rfl, Nat.zero_le _, (Below.refl _ _).alloc (Nat.le_refl _) _, ⟨.map [], World.ownsMap_made _ _ _ _, [], IsM.empty _ _⟩⟩
  case round =>
    obtain ⟨i, rfl, hi, hb, HO⟩ := hrel
    by_cases hil : i < l.length
    · obtain ⟨b, off, ea, hbl, hcs⟩ := (HR.out.below hb).get (by omega)
      have x0 := hcs i hil 0 (by omega)
      have x1 := hcs i hil 1 (by omega)
      have x2 := hcs i hil 2 (by omega)
      simp only [ePt, List.getElem?_cons_zero, List.getElem?_cons_succ, Nat.add_zero] at x0 x1 x2
      have hkey : Hid (keyOf Tryz.prog 32 (.int .u32 l[i].2.2) = some (.int .u32 l[i].2.2)) := keyOf_int_mk Tryz.underlying32 (HW.out _ (List.getElem_mem _))
      obtain ⟨D, hown0, hD⟩ := HO.out
      have HD2 := Lib.hid (hD.put hil)
      have hS2 := hb.size
      have EA := Lib.hid ea
      clear HO hcs hD ea
      generalize l[i] = p at *
      obtain ⟨px, py, pi⟩ := p
      obtain rfl := EA.out
      clear EA
      have hown := hown0.kept (World.grownBy_alloc wr (.cells #[.int .i64 px, .int .i64 py, .int .u32 pi] 34) none) (by simp)
      go_wp2_with (at_mapUpdate; refine wpList_mapUpdate_own _ rfl _ _ _ 40 rfl 32 3 (int_keyed Tryz.underlying32) Tryz.underlying40 _ w.heap.size i _ rfl hown (by unfold maxLen; omega) _ _ _ rfl rfl hkey.out _ [] (plainElem_int Tryz.underlying3 (by simp [Lit.wf, IntKind.min, IntKind.max, IntKind.bits, IntKind.signed]; omega)) ?_; intro w3 hown3 hgrow3)
      have B3 : Below w.heap.size wr w3 := (((Below.refl _ wr).alloc (by omega) _)).grown hgrow3 (by simp; omega) (fun j ej => by cases ej; omega)
      have HO3 : Hid (∃ (D : DataW Unit), w3.ownsMap Tryz.prog 32 (plainElem Tryz.prog 3) w.heap.size (i + 1) D ∧ PlcAt D l (i + 1)) := ⟨_, hown3, HD2.out⟩
      have B4 := hb.trans B3
      clear hown3 hgrow3 hown hown0 HD2
      go_wp2
      go_roundw
      case rel => exact ⟨i + 1, by go_num, by omega, B4, HO3⟩
      case measure => simp [intOf]; omega
    · obtain rfl : i = l.length := by omega
      obtain ⟨D, hown, hD⟩ := HO.out
      have hsize := hD.size
      have HS := Lib.hid hsize
      clear hsize hD HO
      go_wp2_with (at_len; refine wpList_len_own _ rfl _ 40 rfl 32 3 Tryz.underlying40 _ w.heap.size _ _ rfl hown ?_)
      go_ret
      exact ⟨by rw [HS.out]; rfl, hb⟩

set_option maxRecDepth 100000 in
set_option maxHeartbeats 4000000 in
theorem band_build_bad (a : Option Addr) (c : Nat) (l : List Pt) (w : World) (hl : RdK ePt 3 w a l) (hn : l.length ≤ 40000) (hw : wfN l) (hu : unl l = false) :
    Calls Tryz.prog 25 #[.slice a l.length c] w fun e w' => e = .returned (.tuple #[.pointer none, .int .i64 2]) ∧ Below w.heap.size w w' := by
  have CU := band_unlike a c l w hl (by omega) hw
  rw [hu] at CU
  obtain ⟨n, hnn⟩ : ∃ n, n = l.length := ⟨_, rfl⟩
  rw [← hnn] at hn CU ⊢
  clear hnn hl
  have d1 : decide ((n : Int) > 2147483648) = false := by simp; omega
  have d2 : decide ((2147483648 : Int) < (n : Int)) = false := by simp; omega
  have d3 : decide (2147483648 < n) = false := by simp; omega
  go_enter Tryz.func25, Tryz.ntmps25
  go_wp2_with (go_at_call 64; refine CU.mono ?_; rintro e w1 ⟨rfl, hb⟩)
  go_ret2
  exact ⟨rfl, hb⟩

def BuildPB (w : World) (R : List Pt) (e : Ending) (w' : World) : Prop :=
  ∃ tb fb V, e = .returned (.tuple #[.pointer (some ⟨tb, 0, none⟩), .int .i64 0]) ∧ BndAt w' w.heap.size w'.heap.size tb fb R (List.replicate R.length false) (ysOf R).length (lk (nds R.length) (ysOf R)) V ∧ Below w.heap.size w w'

set_option maxRecDepth 100000 in
set_option maxHeartbeats 8000000 in
theorem band_build (a : Option Addr) (c : Nat) (l : List Pt) (w : World) (hl : RdK ePt 3 w a l) (hn : l.length ≤ 20000) (hw : wfN l) (hu : unl l = true) :
    Calls Tryz.prog 25 #[.slice a l.length c] w (BuildPB w (srtX l)) := by
  have CU := band_unlike a c l w hl (by omega) hw
  rw [hu] at CU
  have HL := Lib.hid hl
  obtain ⟨n, hnn⟩ : ∃ n, n = l.length := ⟨_, rfl⟩
  have CC := Lib.hid (fun W (hb : Below w.heap.size w W) => clonePts a l n c W hnn.symm (hl.below hb) (by omega))
  have HNN := Lib.hid hnn
  rw [← hnn] at hn CU ⊢
  have CF := Lib.hid (fun W => frame_new n (by omega) W)
  clear hnn hl
  have d1 : decide ((n : Int) > 2147483648) = false := by simp; omega
  have d2 : decide ((2147483648 : Int) < (n : Int)) = false := by simp; omega
  have d3 : decide (2147483648 < n) = false := by simp; omega
  go_enter Tryz.func25, Tryz.ntmps25
  go_wp2_with (go_at_call 64; refine CU.mono ?_; rintro e w1 ⟨rfl, hb1⟩; clear CU)
  go_wp2_with fail
  refine (CF.out w1).mono ?_
  rintro e w2 ⟨rfl, ew2⟩
  have HB2 : Hid (Below w.heap.size w w2) := by rw [ew2]; exact hb1.alloc hb1.size _
  have HF2 : Hid (w2.heap[w1.heap.size]? = some (oFrm 0 0 (.slice none 0 0) n)) := by rw [ew2]; exact lit0 w1 _
  obtain ⟨fb, hfb⟩ : ∃ fb, fb = w1.heap.size := ⟨_, rfl⟩
  have hfb2 : w.heap.size ≤ fb ∧ fb < w2.heap.size := by rw [ew2, hfb]; exact ⟨hb1.size, by simp⟩
  rw [← hfb] at HF2 ⊢
  clear ew2 hb1 hfb CF
  go_upto_region 8 with fail
  go_cut [6] from 6 (fun v6 wx => ∃ tb rv gv, v6 = .pointer (some ⟨tb, 0, none⟩) ∧ Hid (BdR wx w.heap.size fb n rv gv l) ∧ Hid (wx.heap[tb]? = some (bndB rv (.slice none 0 0) gv fb (.slice none 0 0) n)) ∧ Hid (Below w.heap.size w wx) ∧ w.heap.size ≤ tb)
  case first =>
    have hmk := mk_bools n (by omega)
    have fin : ∀ (w5 : World) rv gv, w5.ownsRow w.heap.size 34 3 rv n (l.flatMap ePt) → w5.ownsRow w.heap.size 4 1 gv n ((List.replicate n false).map Value.bool) → w5.heap[fb]? = some (oFrm 0 0 (.slice none 0 0) n) → Below w.heap.size w w5 →
        BdR (w5.alloc (.cells #[rv, .slice none 0 0, gv, .pointer (some ⟨fb, 0, none⟩), .slice none 0 0, .int .i64 n] 102)) w.heap.size fb n rv gv l ∧ (w5.alloc (.cells #[rv, .slice none 0 0, gv, .pointer (some ⟨fb, 0, none⟩), .slice none 0 0, .int .i64 n] 102)).heap[w5.heap.size]? = some (bndB rv (.slice none 0 0) gv fb (.slice none 0 0) n) ∧ Below w.heap.size w (w5.alloc (.cells #[rv, .slice none 0 0, gv, .pointer (some ⟨fb, 0, none⟩), .slice none 0 0, .int .i64 n] 102)) := fun w5 rv gv h1 h2 h5 h6 =>
      ⟨(BdR.mk h1 h2 h5 hfb2.1).kept ((KpS.refl (fun _ => False) w5).alloc _) (fun k _ h => h.elim), lit0 w5 _, h6.alloc h6.size _⟩
    have FIN := Lib.hid fin
    clear fin
    refine wp_region_head (fun W => True) [1, 4, 8, 9, 10] [(0, false), (2, false), (3, false), (5, false), (6, false), (7, false)] (by kernel_rfl) (by kernel_rfl) (fun _ _ d _ _ h => by cases d <;> exact h) trivial 5 rfl (by kernel_rfl) ?_
    simp only [pickB, List.filterMap_cons, List.filterMap_nil, List.getElem?_toArray, List.getElem?_cons_succ, List.getElem?_cons_zero, Option.map_some]
    repeat (refine wpHd_step (fun K hK => ?_); go_simp; first | (refine hK _ ?_; clear hK K) | (apply Exists.intro; refine ⟨fun _ => ?_, hK _ ?_⟩; rfl; clear hK K))
    refine wpHd_nil ?_
    have hb2d : Below w.heap.size w w2.drew := HB2.out.drew
    have hf2d : w2.drew.heap[fb]? = some (oFrm 0 0 (.slice none 0 0) n) := HF2.out
    have hs2d : w2.drew.heap.size = w2.heap.size := rfl
    refine wpAnyT_ready [1, 4] (by kernel_rfl) (by simp) ?_
    refine AllReadyT.cons rfl (fun K hK => ?_) (AllReadyT.cons rfl (fun K hK => ?_) AllReadyT.nil)
    · -- Clone first
      refine step_call ent_clonePts rfl _ _ rfl (vals := #[.slice a n c]) rfl (CC.out w2.drew hb2d) ?_
      rintro e w3 ⟨rv, rfl, hr, hbC⟩
      refine ⟨_, rfl, hK _ _ (fun _ _ => trivial) ?_⟩
      clear hK K
      have hf3 : w3.heap[fb]? = some (oFrm 0 0 (.slice none 0 0) n) := (hbC.block fb (by omega)).trans hf2d
      have hb3 : Below w.heap.size w w3 := hb2d.trans (hbC.mono hb2d.size)
      have hr3 := rowMono hr hb2d.size
      have FF3 := Lib.hid hf3
      have BB3 := Lib.hid hb3
      have RR3 := Lib.hid hr3
      obtain ⟨ra, rc, rfl⟩ := rowV hr3
      clear hr hbC hb2d hf2d hf3 hb3 hr3
      refine wpAnyT_ready [4] (by kernel_rfl) (by simp) ?_
      refine AllReadyT.cons rfl (fun K hK => ?_) AllReadyT.nil
      go_simp
      refine hK _ _ (fun _ _ => trivial) ?_
      clear hK K
      have hal : Below w3.heap.size w3 (w3.alloc (.cells (madeCells #[.bool false] n) 4)) := (Below.refl _ _).alloc (Nat.le_refl _) _
      have F := FIN.out (w3.alloc (.cells (madeCells #[.bool false] n) 4)) _ (.slice (some ⟨w3.heap.size, 0, none⟩) n n) (ownsRow_below RR3.out hal) (row_bools w3 w.heap.size n BB3.out.size (by omega)) ((hal.block fb (Array.getElem?_eq_some_iff.1 FF3.out).1).trans FF3.out) (BB3.out.alloc BB3.out.size _)
      have HF := Lib.hid F
      have hs5 := (BB3.out.alloc BB3.out.size (.cells (madeCells #[.bool false] n) 4)).size
      clear F hal
      obtain ⟨w5, ew5⟩ : ∃ w5, w5 = w3.alloc (.cells (madeCells #[.bool false] n) 4) := ⟨_, rfl⟩
      rw [← ew5] at HF hs5
      refine wpAnyT_line [8, 9, 10] _ _ _ (by kernel_rfl) ?_
      simp only [pick, List.filterMap_cons, List.filterMap_nil, List.getElem?_toArray, List.getElem?_cons_succ, List.getElem?_cons_zero]
      rw [← ew5]
      clear ew5
      go_wp2
      go_meet
      exact ⟨_, _, _, rfl, HF.out.1, HF.out.2.1, HF.out.2.2, hs5⟩
    · -- makeSlice first
      go_simp
      refine hK _ _ (fun _ _ => trivial) ?_
      clear hK K
      refine wpAnyT_ready [1] (by kernel_rfl) (by simp) ?_
      refine AllReadyT.cons rfl (fun K hK => ?_) AllReadyT.nil
      have hb3 : Below w.heap.size w (w2.alloc (.cells (madeCells #[.bool false] n) 4)).drew := (HB2.out.alloc HB2.out.size _).drew
      have hf3 : (w2.alloc (.cells (madeCells #[.bool false] n) 4)).drew.heap[fb]? = some (oFrm 0 0 (.slice none 0 0) n) := (Below.heap_alloc w2 _ _ hfb2.2).trans HF2.out
      have hg3 : (w2.alloc (.cells (madeCells #[.bool false] n) 4)).drew.ownsRow w.heap.size 4 1 (.slice (some ⟨w2.heap.size, 0, none⟩) n n) n ((List.replicate n false).map Value.bool) := row_bools w2 w.heap.size n HB2.out.size (by omega)
      have hs3 : fb < (w2.alloc (.cells (madeCells #[.bool false] n) 4)).drew.heap.size := by
        show fb < (w2.alloc (.cells (madeCells #[.bool false] n) 4)).heap.size
        simp; omega
      obtain ⟨w3, ew3⟩ : ∃ w3, w3 = (w2.alloc (.cells (madeCells #[.bool false] n) 4)).drew := ⟨_, rfl⟩
      rw [← ew3] at hb3 hf3 hg3 hs3
      refine step_call ent_clonePts rfl _ _ rfl (vals := #[.slice a n c]) rfl (by rw [← ew3]; exact CC.out w3 hb3) ?_
      rintro e w4 ⟨rv, rfl, hr, hbC⟩
      refine ⟨_, rfl, hK _ _ (fun _ _ => trivial) ?_⟩
      clear hK K
      have hf4 : w4.heap[fb]? = some (oFrm 0 0 (.slice none 0 0) n) := (hbC.block fb hs3).trans hf3
      have hb4 : Below w.heap.size w w4 := hb3.trans (hbC.mono hb3.size)
      have hr4 := rowMono hr hb3.size
      have hg4 := ownsRow_below hg3 hbC
      have hs4 := hb4.size
      have F := FIN.out w4 _ (.slice (some ⟨w2.heap.size, 0, none⟩) n n) hr4 hg4 hf4 hb4
      have HF := Lib.hid F
      obtain ⟨ra, rc, rfl⟩ := rowV hr4
      clear hr hbC hb2d hf2d hf4 hb4 hr4 hf3 hb3 hg3 hg4 hs3 ew3 F
      refine wpAnyT_line [8, 9, 10] _ _ _ (by kernel_rfl) ?_
      simp only [pick, List.filterMap_cons, List.filterMap_nil, List.getElem?_toArray, List.getElem?_cons_succ, List.getElem?_cons_zero]
      go_wp2
      go_meet
      exact ⟨_, _, _, rfl, HF.out.1, HF.out.2.1, HF.out.2.2, hs4⟩
  case rest =>
    obtain ⟨tb, rv, gv, rfl, HR, HT, HB, htb⟩ := hcut
    clear HB2 HF2 CC
    obtain ⟨ra, rc, rfl⟩ := rowV HR.out.row
    have htl := (Array.getElem?_eq_some_iff.1 HT.out).1
    have huu : (ids l).Nodup := by unfold unl at hu; simpa using hu
    have CS := Lib.hid (sortPtsXK HNN.out.symm (by omega) HR.out.row huu)
    have htc := HT.out
    have c0 : wc.cell? ⟨tb, 0, none⟩ = some (.slice ra n rc) := by simp [World.cell?, htc]
    clear htc
    go_wp2_with fail
    refine CS.out.mono ?_
    rintro e w4 ⟨rfl, hr4, hk4⟩
    have hR4 : BdR w4 w.heap.size fb n (.slice ra n rc) gv (srtX l) := by
      have h := HR.out
      have hp : ∀ k, k < wc.heap.size → (Value.slice ra n rc).ownBlock = some k → ∃ cs t fr, wc.heap[k]? = some (.cells cs t fr) ∧ t = 34 := fun k hk he => by
        rcases h.row.2 with ⟨e9, -⟩ | ⟨g, cap, cur, e9, -, hh, -⟩
        · rw [e9] at he; cases he
        · rw [e9] at he
          injection he with he
          subst he
          exact ⟨_, _, _, hh, rfl⟩
      refine ⟨hr4, rowE h.gon hk4 fun k h1 h2 => ?_, blkK hk4 h.frb fun h2 => ?_, h.lof⟩
      · obtain ⟨cs, t, fr, a, rfl⟩ := hp k h1 h2; exact ⟨cs, _, fr, a, by decide⟩
      · obtain ⟨cs, t, fr, a, rfl⟩ := hp fb (Array.getElem?_eq_some_iff.1 h.frb).1 h2
        have h9 := a.symm.trans h.frb
        injection h9 with h9
        injection h9 with _ h9 _
        exact absurd h9 (by decide)
    have HT4 : Hid (w4.heap[tb]? = some (bndB (.slice ra n rc) (.slice none 0 0) gv fb (.slice none 0 0) n)) := blkK hk4 HT.out (fun h => row_ne HR.out.row HT.out (by decide) tb h rfl)
    have HB4 : Hid (Below w.heap.size w w4) := HB.out.trans (hk4.toBelow HB.out.size (fun k h => (HR.out.row.lt k h).1))
    have HR4 := Lib.hid hR4
    have hRl : (srtX l).length = n := by rw [(srtX_perm l).length_eq]; exact HNN.out.symm
    have hRu : (ids (srtX l)).Nodup := ((srtX_perm l).map _).nodup_iff.2 huu
    have HRS : Hid ((srtX l).Pairwise ltX ∧ (ids (srtX l)).Nodup) := ⟨srtX_sorted huu, hRu⟩
    clear hr4 hk4 hR4 HR HT HB CS hRu c0 htl
    generalize hRR : srtX l = R at *
    clear hRR
    have htl := (Array.getElem?_eq_some_iff.1 HT4.out).1
    have htc := HT4.out
    have c0 : w4.cell? ⟨tb, 0, none⟩ = some (.slice ra n rc) := by simp [World.cell?, htc]
    clear htc
    go_wp2_with fail
    go_loopg [49] n (fun kx s49 wr => ∃ (i : Nat) (xv : Value), s49 = .int .i64 i ∧ i ≤ n ∧ n - i ≤ kx ∧ Hid (wr.heap[tb]? = some (bndB (.slice ra n rc) xv gv fb (.slice none 0 0) n)) ∧ Hid (wr.ownsRow w4.heap.size 2 1 xv i (((xsR R).take i).map (Value.int .i64))) ∧ Hid (KpS (fun k => k = tb) w4 wr))
    case atStart => exact ⟨0, _, rfl, Nat.zero_le _, by omega, HT4, World.ownsRow_nil _ _ _ _, KpS.refl _ _⟩
    case round =>
      obtain ⟨i, xv, rfl, hi, hkx, HT5, HX5, HK5⟩ := hrel
      by_cases hin : i < n
      · have hrr := rowK HR4.out.row HK5.out (fun g h h2 => row_ne HR4.out.row HT4.out (by decide) g h h2.symm)
        obtain ⟨_, _, ee, -, -, hrd⟩ := RdK.of_owns ePt_len (by decide) hrr
        injection ee with e1 e2 e3
        subst e1
        clear e2 e3
        obtain ⟨b, off, ea, hbl, hcs⟩ := hrd.get (by omega)
        have x0 := hcs i (by omega) 0 (by omega)
        have x1 := hcs i (by omega) 1 (by omega)
        have x2 := hcs i (by omega) 2 (by omega)
        simp only [ePt, List.getElem?_cons_zero, List.getElem?_cons_succ, Nat.add_zero] at x0 x1 x2
        have hxt : (xsR R).take (i + 1) = (xsR R).take i ++ [R[i].1] := by
          have h : i < (xsR R).length := by unfold xsR; simp; omega
          rw [List.take_succ_eq_append_getElem h]
          simp [xsR]
        have HXT := Lib.hid hxt
        subst ea
        clear hcs hrd hxt hrr
        generalize R[i] = p at *
        obtain ⟨px, py, pi⟩ := p
        simp only at HXT x0 x1 x2
        have htc := HT5.out
        have htl5 := (Array.getElem?_eq_some_iff.1 htc).1
        obtain ⟨xa, xc, rfl⟩ := rowV HX5.out
        go_upto_region 13 with fail
        obtain ⟨w6, ew6⟩ : ∃ w6, w6 = wr.alloc (.cells #[.int .i64 px, .int .i64 py, .int .u32 pi] 34) := ⟨_, rfl⟩
        have hb6 : Below wr.heap.size wr w6 := by rw [ew6]; exact (Below.refl _ _).alloc (Nat.le_refl _) _
        have hx6 : w6.heap[wr.heap.size]? = some (.cells #[.int .i64 px, .int .i64 py, .int .u32 pi] 34 (0, 0)) := by rw [ew6]; exact lit0 wr _
        have ht6 := (hb6.block tb htl5).trans htc
        have hs45 := HK5.out.size
        have hs56 := hb6.size
        have g1 := cell_belowW (w := w6) (ad := ⟨tb, 1, none⟩) (v := .slice xa i xc) (by simp [World.cell?, ht6])
        have g2 := cell_belowW (w := w6) (ad := ⟨wr.heap.size, 0, none⟩) (v := .int .i64 px) (by simp [World.cell?, hx6])
        have HX6 := Lib.hid (ownsRow_below HX5.out hb6)
        have HK6 : Hid (KpS (fun k => k = tb) w4 w6) := HK5.out.below hb6
        have HT6 := Lib.hid ht6
        rw [← ew6]
        clear ew6 hb6 hx6 ht6 htc x0 x1 x2
        refine wp_region_head (fun W => ∃ p : BelowW w6, W = p.W) [8, 9, 10, 11] [(0, false), (1, false), (2, false), (3, false), (4, true), (5, false), (6, true)] (by kernel_rfl) (by kernel_rfl) (fun _ _ d _ _ h => by cases d <;> exact h) ⟨⟨_, (Below.refl _ _).drew⟩, rfl⟩ 5 rfl (by kernel_rfl) ?_
        simp only [pickB, List.filterMap_cons, List.filterMap_nil, List.getElem?_toArray, List.getElem?_cons_succ, List.getElem?_cons_zero, Option.map_some]
        repeat (refine wpHd_step (fun K hK => ?_); go_simp; first | (refine hK _ ?_; clear hK K) | (apply Exists.intro; refine ⟨fun _ => ?_, hK _ ?_⟩; rfl; clear hK K))
        refine wpHd_nil ?_
        refine wpAnyT_ready [7] (by kernel_rfl) (by simp) ?_
        refine AllReadyT.cons rfl (fun K hK => ?_) AllReadyT.nil
        go_simp
        refine hK _ _ (fun _ _ => ⟨⟨_, (Below.refl _ w6).alloc (Nat.le_refl _) _ |>.drew⟩, rfl⟩) ?_
        clear hK K
        refine wpAnyT_ready [8] (by kernel_rfl) (by simp) ?_
        refine AllReadyT.cons rfl (fun K hK => ?_) AllReadyT.nil
        refine step_append1E elInt64 w4.heap.size (w := (w6.alloc (.cells #[.int .i64 px] 2)).drew) (ownsRow_below HX6.out ((Below.refl _ w6).alloc (Nat.le_refl _) _ |>.drew)) [.int .i64 px] rfl (by simp [Value.oneCell']) rfl (.tmp 57) (.tmp 60) rfl rfl w6.heap.size rfl (lit0d _ _) (by unfold maxLen; omega) (by omega) (by simp; omega) ?_
        intro ga capa w8 hown8 hg8 hblk8 hlt8
        refine hK _ _ (fun _ h => absurd (by simp) h) ?_
        clear hK K
        refine wpAnyT_line [9, 10, 11] _ _ _ (by kernel_rfl) ?_
        simp only [pick, List.filterMap_cons, List.filterMap_nil, List.getElem?_toArray, List.getElem?_cons_succ, List.getElem?_cons_zero]
        have hg68 : w6.grownBy w8 (Value.slice xa i xc).ownBlock := grownBy_trans (below_asGrown ((Below.refl _ w6).alloc (Nat.le_refl _) _ |>.drew)) hg8
        have KA8 : KpS (fun k => (Value.slice xa i xc).ownBlock = some k) w6 w8 := (KpS.refl _ w6).grown hg68 (fun k hk => .inl hk)
        have hxb : ∀ g, (Value.slice xa i xc).ownBlock = some g → w4.heap.size ≤ g := fun g h => (HX6.out.lt g h).1
        have ht8 := blkK KA8 HT6.out (fun h => by have := hxb tb h; omega)
        have q8 : w8.cell? ⟨tb, 1, none⟩ = some (.slice xa i xc) := by simp [World.cell?, ht8]
        have f8 : w8.frozen? ⟨tb, 1, none⟩ = false := by simp [World.frozen?, ht8]
        have HT9 : Hid ((w8.setCell ⟨tb, 1, none⟩ (.slice (some ⟨ga, 0, none⟩) (i + 1) capa)).heap[tb]? = some (bndB (.slice (some ⟨b, off, none⟩) n rc) (.slice (some ⟨ga, 0, none⟩) (i + 1) capa) gv fb (.slice none 0 0) n)) := heap_setCell_same w8 tb 1 _ _ _ ht8
        have HX9 : Hid ((w8.setCell ⟨tb, 1, none⟩ (.slice (some ⟨ga, 0, none⟩) (i + 1) capa)).ownsRow w4.heap.size 2 1 (.slice (some ⟨ga, 0, none⟩) (i + 1) capa) (i + 1) (((xsR R).take (i + 1)).map (Value.int .i64))) := by
          have h9 := rowK (S := fun k => k = tb) hown8 ((KpS.refl (fun k => k = tb) w8).set (a := ⟨tb, 1, none⟩) (.slice (some ⟨ga, 0, none⟩) (i + 1) capa) (.inl rfl)) (fun g h h2 => by have := (hown8.lt g h).1; omega)
          show World.ownsRow _ _ _ _ _ _ _
          rw [HXT.out, List.map_append]
          exact h9
        have HK9 : Hid (KpS (fun k => k = tb) w4 (w8.setCell ⟨tb, 1, none⟩ (.slice (some ⟨ga, 0, none⟩) (i + 1) capa))) := ((HK6.out.mono (S' := fun k => k = tb ∨ w4.heap.size ≤ k) (fun k h => .inl h)).trans (KA8.mono (fun k h => .inr (hxb k h)))).strip.set (a := ⟨tb, 1, none⟩) _ (.inl rfl)
        clear KA8 hg68 hg8 hown8 ht8 g1 g2 HX6 HT6 HK6 hxb
        go_wp2
        go_roundg (n - (i + 1))
        case measure => omega
        case rel => exact ⟨i + 1, _, by go_num, by omega, Nat.le_refl _, HT9, HX9, HK9⟩
      · obtain rfl : i = n := by omega
        have hR5 : BdR wr w.heap.size fb i (.slice ra i rc) gv R := HR4.out.kept HK5.out (fun k h1 h2 => by subst h2; exact ⟨_, _, _, HT4.out, by decide, by decide, by decide⟩)
        have hB5 : Below w.heap.size w wr := HB4.out.trans (HK5.out.toBelow HB4.out.size (fun k h => by omega))
        have hX5 := HX5.out
        rw [List.take_of_length_le (by unfold xsR; simp; omega)] at hX5
        have HB5 := Lib.hid hB5
        have HR5 := Lib.hid hR5
        have hs5 := hB5.size
        have hX5' := rowMono hX5 HB4.out.size
        have hXT : ∀ g, xv.ownBlock = some g → w4.heap.size ≤ g := fun g h => (hX5.lt g h).1
        obtain ⟨xa, xc, rfl⟩ := rowV hX5
        have htl := (Array.getElem?_eq_some_iff.1 HT5.out).1
        have CND := Lib.hid (frame_nodes_first fb i (by omega) wr hR5.frb)
        have HX5' := Lib.hid hX5'
        clear hB5 hR5 hX5 hX5' HK5 HX5 HB4 HR4 HT4 c0 hXT
        go_wp2_with fail
        refine CND.out.mono ?_
        rintro e w7 ⟨fv, nv, rfl, hfr, hnr, hfb7, hk7⟩
        have hl7 := hk7.size
        have HRW7 : Hid (w7.ownsRow w.heap.size 34 3 (.slice ra i rc) i (R.flatMap ePt)) := rowN HR5.out.row (by decide) HR5.out.frb hk7
        have HGN7 : Hid (w7.ownsRow w.heap.size 4 1 gv i ((List.replicate i false).map Value.bool)) := rowN HR5.out.gon (by decide) HR5.out.frb hk7
        have HXS7 : Hid (w7.ownsRow w.heap.size 2 1 (.slice xa i xc) i ((xsR R).map (Value.int .i64))) := rowN HX5'.out (by decide) HR5.out.frb hk7
        have HT7 : Hid (w7.heap[tb]? = some (bndB (.slice ra i rc) (.slice xa i xc) gv fb (.slice none 0 0) i)) := blkK hk7 HT5.out (fun e => by subst e; have h9 := HR5.out.frb.symm.trans HT5.out; injection h9 with h9; injection h9 with _ h9 _; exact absurd h9 (by decide))
        have HFR7 : Hid (FrmAt w7 w.heap.size fb i fv) := ⟨hfb7, rowMono hfr hs5⟩
        have HND7 : Hid (w7.ownsRow w.heap.size 106 7 nv (nds i).length ((nds i).flatMap eNd)) := rowMono hnr hs5
        have HB7 : Hid (Below w.heap.size w w7) := HB5.out.trans (hk7.toBelow hs5 (fun k h => by have := hfb2.1; omega))
        have hs7 := HB7.out.size
        have htl7 : tb < w7.heap.size := by omega
        obtain ⟨na, nc, rfl⟩ := rowV hnr
        obtain ⟨M, hM⟩ : ∃ M, M = (nds i).length := ⟨_, rfl⟩
        have HMM := Lib.hid hM
        have hM4 : M ≤ 40000 := by rw [hM, nds_len]; omega
        rw [← hM]
        clear hfr hnr hfb7 hk7 HR5 HX5' HT5 CND hM HB5
        go_wp2_with fail
        have HBL0 := BdL.none w7 w7.heap.size R (nds i) (fun _ => .slice none 0 0) (fun _ => .slice none 0 0)
        have HNS7 : Hid (∀ g, (Value.slice na M nc).ownBlock = some g → tb ≠ g) := fun g h => row_ne HND7.out HT7.out (by decide) g (by rw [← HMM.out]; exact h)
        go_loopg [68] M (fun kx s68 wr => ∃ (j : Nat) (LY LN : Nat → Value) (lv : Value), s68 = .int .i64 j ∧ j ≤ M ∧ M - j ≤ kx ∧ Hid (wr.heap[tb]? = some (bndB (.slice ra i rc) (.slice xa i xc) gv fb lv i)) ∧ Hid (BdL wr w7.heap.size R (nds i) j LY LN lv) ∧ Hid (KpS (fun k => k = tb) w7 wr))
        case atStart => exact ⟨0, _, _, _, rfl, Nat.zero_le _, by omega, HT7, HBL0, KpS.refl _ _⟩
        case round =>
          obtain ⟨j, LY, LN, lv, rfl, hj, hkx2, HTr, HBL, HKr⟩ := hrel
          by_cases hjM : j < M
          · have hjN : j < (nds i).length := by rw [← HMM.out]; exact hjM
            have hnr := rowK HND7.out HKr.out (fun g h h2 => HNS7.out g (by rw [HMM.out]; exact h) h2.symm)
            obtain ⟨_, _, ee, -, -, hrd⟩ := RdK.of_owns eNd_len (by decide) hnr
            injection ee with e1 e2 e3
            subst e1
            clear e2 e3
            obtain ⟨t, s, ha, hts⟩ := nds_get hjN
            have hi0 : 0 < i := nds_pos ha
            have hgt := ha.get
            rw [hts] at hgt
            obtain ⟨w1', w2', w3'⟩ := mkT_spec 0 i hi0
            have hmem := FT.at_mem (nds_eq hi0 ▸ ha)
            have hwt := FT.subs_wf _ 0 w1' _ hmem
            have hhi := FT.subs_hi _ 0 w1' _ hmem
            have hlh := t.lo_hi hwt
            simp only at hhi hwt
            have hna : ∃ g off, na = some ⟨g, off, none⟩ := by
              rcases hrd with h9 | ⟨g, off, e, _⟩
              · rw [h9] at hjN; simp at hjN
              · exact ⟨g, off, e⟩
            obtain ⟨gn, off, rfl⟩ := hna
            obtain ⟨hgn, c0, c1, c2, c3, c4, c5, c6⟩ := nd_allC hrd hgt
            have hlkd : lk (nds i) (ysOf R) j = lkd (ysOf R) (t.top s) := by unfold lk; rw [hgt]
            have hseg := srtY_lkd HRS.out.1 HRS.out.2 (fr := t.lo) (tl := t.hi) (by omega) (d := t.top s) (FT.top_fr t s) (FT.top_to t s)
            rw [← hlkd] at hseg
            rw [FT.top_fr] at c3
            rw [FT.top_to] at c4
            have HSEG := Lib.hid hseg
            have hil : t.hi ≤ i := by omega
            clear hseg hlkd hgt hhi hwt ha hts w1' w2' w3' hmem hnr hrd
            generalize (t.top s).kind = kd at *
            generalize (t.top s).l = dl at *
            generalize (t.top s).r = dr at *
            generalize (t.top s).item = it at *
            generalize t.lo = tl at *
            generalize t.hi = th at *
            have hrow := rowK HRW7.out HKr.out (fun g h h2 => row_ne HRW7.out HT7.out (by decide) g h h2.symm)
            obtain ⟨_, _, ee, -, hrc, hrd⟩ := RdK.of_owns ePt_len (by decide) hrow
            injection ee with e1 e2 e3
            subst e1 e3
            clear e2
            have htr := HTr.out
            have hsr := HKr.out.size
            have htlr := (Array.getElem?_eq_some_iff.1 htr).1
            go_upto_region 18 with fail
            obtain ⟨wN, ewN⟩ : ∃ wN, wN = wr.alloc (.cells #[.int .u8 kd, .int .i64 dl, .int .i64 dr, .int .i64 tl, .int .i64 th, .int .i64 0, .int .i64 it] 106) := ⟨_, rfl⟩
            have hbN : Below wr.heap.size wr wN := by rw [ewN]; exact (Below.refl _ _).alloc (Nat.le_refl _) _
            have hxN : wN.heap[wr.heap.size]? = some (.cells #[.int .u8 kd, .int .i64 dl, .int .i64 dr, .int .i64 tl, .int .i64 th, .int .i64 0, .int .i64 it] 106 (0, 0)) := by rw [ewN]; exact lit0 wr _
            have htN := (hbN.block tb htlr).trans htr
            have hsN := hbN.size
            rw [← ewN]
            have g0 := cell_belowW (w := wN) (ad := ⟨tb, 0, none⟩) (v := .slice ra i rc) (by simp [World.cell?, htN])
            have g3 := cell_belowW (w := wN) (ad := ⟨wr.heap.size, 3, none⟩) (v := .int .i64 tl) (by simp [World.cell?, hxN])
            have g4 := cell_belowW (w := wN) (ad := ⟨wr.heap.size, 4, none⟩) (v := .int .i64 th) (by simp [World.cell?, hxN])
            have HRD : Hid (RdK ePt 3 wN.drew ra R) := hrd.below hbN.drew
            have HKN : Hid (KpS (fun k => k = tb) w7 wN) := HKr.out.below hbN
            have HBLN : Hid (BdL wN w7.heap.size R (nds i) j LY LN lv) := HBL.out.kept ((KpS.refl (fun _ => False) wr).below hbN) (fun _ _ _ h => h)
            have HTN := Lib.hid htN
            have hsnn : w7.heap.size ≤ wN.heap.size := by omega
            clear ewN hbN hxN htr htN hrow hrd HTr HBL HKr c0 c1 c2 c3 c4 c5 c6
            refine wp_region_head (fun W => ∃ p : BelowW wN, W = p.W) [8, 9, 10] [(0, false), (1, false), (2, false), (3, true), (4, false), (5, true), (6, false), (7, true)] (by kernel_rfl) (by kernel_rfl) (fun _ _ d _ _ h => by cases d <;> exact h) ⟨⟨_, (Below.refl _ _).drew⟩, rfl⟩ 3 rfl (by kernel_rfl) ?_
            simp only [pickB, List.filterMap_cons, List.filterMap_nil, List.getElem?_toArray, List.getElem?_cons_succ, List.getElem?_cons_zero, Option.map_some]
            repeat (refine wpHd_step (fun K hK => ?_); go_simp; first | (refine hK _ ?_; clear hK K) | (apply Exists.intro; refine ⟨fun _ => ?_, hK _ ?_⟩; rfl; clear hK K))
            refine wpHd_nil ?_
            refine wpAnyT_ready [8] (by kernel_rfl) (by simp) ?_
            refine AllReadyT.cons rfl (fun K hK => ?_) AllReadyT.nil
            refine step_sliceK (c := rc) elPoint HRD.out (by omega) tl th (by omega) (by omega) rfl (.tmp 75) (.tmp 77) (.tmp 79) rfl (by rw [hRl]; rfl) rfl rfl ?_
            intro ad' hrs
            refine hK _ _ (fun h _ => h) ?_
            clear hK K
            refine wpAnyT_ready [9] (by kernel_rfl) (by simp) ?_
            refine AllReadyT.cons rfl (fun K hK => ?_) AllReadyT.nil
            have hsl := seg_len (R := R) (fr := tl) (tl := th) (by omega)
            refine step_call ent_clonePts rfl _ _ rfl (vals := #[.slice ad' (th - tl) (rc - tl)]) rfl (clonePts ad' ((R.take th).drop tl) (th - tl) (rc - tl) wN.drew hsl hrs (by omega)) ?_
            rintro e w8 ⟨hv, rfl, hh8, hb8⟩
            refine ⟨_, rfl, hK _ _ (fun _ h => absurd (by simp) h) ?_⟩
            clear hK K
            refine wpAnyT_line [10] _ _ _ (by kernel_rfl) ?_
            simp only [pick, List.filterMap_cons, List.filterMap_nil, List.getElem?_toArray, List.getElem?_cons_succ, List.getElem?_cons_zero]
            have hbN8 : Below wN.heap.size wN w8 := (Below.drewAny _ 1).trans hb8
            have HK8 : Hid (KpS (fun k => k = tb) w7 w8) := HKN.out.below hbN8
            have HBL8 : Hid (BdL w8 w7.heap.size R (nds i) j LY LN lv) := HBLN.out.kept ((KpS.refl (fun _ => False) wN).below hbN8) (fun _ _ _ h => h)
            have HT8 := Lib.hid ((hbN8.block tb (Array.getElem?_eq_some_iff.1 HTN.out).1).trans HTN.out)
            have hs8 := hbN8.size
            have CS8 := Lib.hid (sortPtsYK hsl (by omega) hh8 (seg_ids HRS.out.2 tl th))
            have HHB : Hid (∀ g, hv.ownBlock = some g → wN.heap.size ≤ g) := fun g h => (hh8.lt g h).1
            have HH8 := Lib.hid hh8
            obtain ⟨hva, hvc, rfl⟩ := rowV hh8
            clear hh8 hb8 hbN8 hrs HRD HKN HBLN g0 g3 g4
            go_wp2_with fail
            refine CS8.out.mono ?_
            rintro e w9 ⟨rfl, hr9, hk9⟩
            have HK9 : Hid (KpS (fun k => k = tb) w7 w9) := ((HK8.out.mono (S' := fun k => k = tb ∨ w7.heap.size ≤ k) (fun k h => .inl h)).trans (hk9.mono (fun k h => .inr (by have := HHB.out k h; omega)))).strip
            have HBL9 : Hid (BdL w9 w7.heap.size R (nds i) j LY LN lv) := by
              have h := HBL8.out
              have hp : ∀ k, (Value.slice hva (th - tl) hvc).ownBlock = some k → k < w8.heap.size ∧ ∃ cs fr, w8.heap[k]? = some (.cells cs 34 fr) := fun k he => by
                rcases HH8.out.2 with ⟨e9, -⟩ | ⟨g, cap, cur, e9, -, hh, -⟩
                · rw [e9] at he; cases he
                · rw [e9] at he
                  injection he with he
                  subst he
                  exact ⟨(Array.getElem?_eq_some_iff.1 hh).1, _, _, hh⟩
              have hne : ∀ {B : Nat} {e : TypeId} {sz m : Nat} {u : Value} {xs : List Value}, w8.ownsRow B e sz u m xs → 34 ≠ e → w9.ownsRow B e sz u m xs := fun hr he => rowE hr hk9 (fun k _ h2 => by obtain ⟨_, cs, fr, hh⟩ := hp k h2; exact ⟨cs, _, fr, hh, he⟩)
              exact ⟨hne h.lst (by decide), fun k hk => hne (h.yss k hk) (by decide), fun k hk => hne (h.nam k hk) (by decide), h.neY, h.neN⟩
            have HT9 : Hid (w9.heap[tb]? = some (bndB (.slice ra i rc) (.slice xa i xc) gv fb lv i)) := blkK hk9 HT8.out (fun h => by have := HHB.out tb h; omega)
            rw [HSEG.out] at hr9
            have HR9 := Lib.hid hr9
            have hs9 := hk9.size
            clear hr9 hk9 CS8 HK8 HBL8 HT8 HH8 HHB
            go_upto_region 21 with fail
            obtain ⟨wY, ewY⟩ : ∃ wY, wY = w9.alloc (.cells #[.slice none 0 0, .slice none 0 0] 108) := ⟨_, rfl⟩
            obtain ⟨yb, hyb⟩ : ∃ yb, yb = w9.heap.size := ⟨_, rfl⟩
            have hbY : Below w9.heap.size w9 wY := by rw [ewY]; exact (Below.refl _ _).alloc (Nat.le_refl _) _
            have hxY : wY.heap[yb]? = some (.cells #[.slice none 0 0, .slice none 0 0] 108 (0, 0)) := by rw [ewY, hyb]; exact lit0 w9 _
            rw [← ewY, ← hyb]
            have HXY := Lib.hid hxY
            have hybl : yb < wY.heap.size := (Array.getElem?_eq_some_iff.1 hxY).1
            have hyb9 : w9.heap.size ≤ yb := by omega
            have HKY : Hid (KpS (fun k => k = tb) w7 wY) := HK9.out.below hbY
            have HBLY : Hid (BdL wY w7.heap.size R (nds i) j LY LN lv) := HBL9.out.kept ((KpS.refl (fun _ => False) w9).below hbY) (fun _ _ _ h => h)
            have HTY := Lib.hid ((hbY.block tb (by omega)).trans HT9.out)
            have HRY := Lib.hid (ownsRow_below HR9.out hbY)
            have hsY := hbY.size
            have HHB2 : Hid (∀ g, (Value.slice hva (th - tl) hvc).ownBlock = some g → g < yb) := fun g h => by have := (HR9.out.lt g h).2; omega
            have HK9Y : Hid (KpS (fun k => k = yb) w9 wY) := (KpS.refl _ w9).below hbY
            clear ewY hyb hbY hxY HK9 HT9 HR9 HSEG
            obtain ⟨L, hL⟩ : ∃ L, L = lk (nds i) (ysOf R) j := ⟨_, rfl⟩
            have HL := Lib.hid hL
            rw [← hL] at HRY
            obtain ⟨m, hm⟩ : ∃ m, m = th - tl := ⟨_, rfl⟩
            have hLm : L.length = m := by
              have h9 := HRY.out.1
              rw [flat_len ePt_len, List.length_map] at h9
              omega
            have HLM := Lib.hid hLm
            rw [← hm] at HRY HHB2 ⊢
            have hm2 : m ≤ 20000 := by omega
            clear hL hLm hm hsl hlh
            go_wp2_with fail
            go_loopg [86] m (fun kx s86 wr => ∃ (q : Nat) (vy vn : Value), s86 = .int .i64 q ∧ q ≤ m ∧ m - q ≤ kx ∧ Hid (wr.heap[yb]? = some (.cells #[vy, vn] 108 (0, 0))) ∧ Hid (wr.ownsRow wY.heap.size 2 1 vy q (((L.take q).map (yvR R)).map (Value.int .i64))) ∧ Hid (wr.ownsRow wY.heap.size 32 1 vn q (((L.take q).map (nmR R)).map (Value.int .u32))) ∧ Hid (KpS (fun k => k = yb) wY wr))
            case atStart => exact ⟨0, _, _, rfl, Nat.zero_le _, by omega, HXY, World.ownsRow_nil _ _ _ _, World.ownsRow_nil _ _ _ _, KpS.refl _ _⟩
            case round =>
              obtain ⟨q, vy, vn, rfl, hq, hkx3, HYq, HVY, HVN, HKq⟩ := hrel
              by_cases hqm : q < m
              · have hqL : q < L.length := by rw [HLM.out]; exact hqm
                have hrr := rowK HRY.out HKq.out (fun g h h2 => by have := HHB2.out g h; omega)
                obtain ⟨_, _, ee, -, -, hrd⟩ := RdK.of_owns ePt_len (by decide) hrr
                injection ee with e1 e2 e3
                subst e1
                clear e2 e3
                obtain ⟨b, off2, ea, hbl, hcs⟩ := hrd.get (by rw [List.length_map]; omega)
                have x0 := hcs q (by rw [List.length_map]; omega) 0 (by omega)
                have x1 := hcs q (by rw [List.length_map]; omega) 1 (by omega)
                have x2 := hcs q (by rw [List.length_map]; omega) 2 (by omega)
                simp only [List.getElem_map, ePt, List.getElem?_cons_zero, List.getElem?_cons_succ, Nat.add_zero] at x0 x1 x2
                have hyt : (L.take (q + 1)).map (yvR R) = (L.take q).map (yvR R) ++ [(ptAt R L[q]).2.1] := by
                  rw [List.take_succ_eq_append_getElem hqL, List.map_append]; rfl
                have hnt : (L.take (q + 1)).map (nmR R) = (L.take q).map (nmR R) ++ [(ptAt R L[q]).2.2] := by
                  rw [List.take_succ_eq_append_getElem hqL, List.map_append]; rfl
                have HYT := Lib.hid hyt
                have HNT := Lib.hid hnt
                subst ea
                clear hcs hrd hyt hnt hrr
                generalize ptAt R L[q] = p at *
                obtain ⟨px, py, pi⟩ := p
                simp only at HYT HNT x0 x1 x2
                obtain ⟨ya, yc, rfl⟩ := rowV HVY.out
                obtain ⟨va, vc, rfl⟩ := rowV HVN.out
                go_upto_region 24 with fail
                obtain ⟨pb, hpb⟩ : ∃ pb, pb = wr.heap.size := ⟨_, rfl⟩
                obtain ⟨wP, ewP⟩ : ∃ wP, wP = wr.alloc (.cells #[.int .i64 px, .int .i64 py, .int .u32 pi] 34) := ⟨_, rfl⟩
                have hbP : Below wr.heap.size wr wP := by rw [ewP]; exact (Below.refl _ _).alloc (Nat.le_refl _) _
                have hxP : wP.heap[pb]? = some (.cells #[.int .i64 px, .int .i64 py, .int .u32 pi] 34 (0, 0)) := by rw [ewP, hpb]; exact lit0 wr _
                have hyP := (hbP.block yb (Array.getElem?_eq_some_iff.1 HYq.out).1).trans HYq.out
                have hsY2 := HKq.out.size
                have hsP := hbP.size
                have HVYP := Lib.hid (ownsRow_below HVY.out hbP)
                have HVNP := Lib.hid (ownsRow_below HVN.out hbP)
                have HKP : Hid (KpS (fun k => k = yb) wY wP) := HKq.out.below hbP
                rw [← ewP, ← hpb]
                have HYP := Lib.hid hyP
                have hYne : ¬ (Value.slice ya q yc).ownBlock = some yb := fun h => row_ne HVYP.out hyP (by decide) yb h rfl
                have hPne : ¬ (Value.slice ya q yc).ownBlock = some pb := fun h => row_ne HVYP.out hxP (by decide) pb h rfl
                have keep : ∀ {bk o : Nat} {v : Value}, bk < wP.heap.size → ¬ (Value.slice ya q yc).ownBlock = some bk → wP.cell? ⟨bk, o, none⟩ = some v → ∀ p : KeptW (fun k => (Value.slice ya q yc).ownBlock = some k) wP, p.W.cell? ⟨bk, o, none⟩ = some v := fun hb hd hv p => ((cellK p.h hb hd).1 _).trans hv
                have hybP : yb < wP.heap.size := (Array.getElem?_eq_some_iff.1 hyP).1
                have hpbP : pb < wP.heap.size := (Array.getElem?_eq_some_iff.1 hxP).1
                have k0 := keep (bk := yb) (o := 0) (v := .slice ya q yc) hybP hYne (by simp [World.cell?, hyP])
                have k1 := keep (bk := yb) (o := 1) (v := .slice va q vc) hybP hYne (by simp [World.cell?, hyP])
                have k2 := keep (bk := pb) (o := 1) (v := .int .i64 py) hpbP hPne (by simp [World.cell?, hxP])
                have k3 := keep (bk := pb) (o := 2) (v := .int .u32 pi) hpbP hPne (by simp [World.cell?, hxP])
                have HYL : Hid (∀ g, (Value.slice ya q yc).ownBlock = some g → wY.heap.size ≤ g ∧ g < wP.heap.size) := HVYP.out.lt
                have HNL : Hid (∀ g, (Value.slice va q vc).ownBlock = some g → wY.heap.size ≤ g ∧ g < wP.heap.size) := HVNP.out.lt
                have HYNE := Lib.hid hYne
                have HVYA : Hid (∀ W, KpS (fun _ => False) wP W → W.ownsRow wY.heap.size 2 1 (.slice ya q yc) q (((L.take q).map (yvR R)).map (Value.int .i64))) := fun W h => rowK HVYP.out h (fun _ _ h => h)
                have HEND : Hid (∀ (w2 w3 : World) (gA cA gB cB : Nat), KpS (fun k => (Value.slice ya q yc).ownBlock = some k) wP w2 → w2.ownsRow wY.heap.size 2 1 (.slice (some ⟨gA, 0, none⟩) (q + 1) cA) (q + 1) ((((L.take q).map (yvR R)).map (Value.int .i64)) ++ [.int .i64 py]) → KpS (fun k => (Value.slice va q vc).ownBlock = some k) w2 w3 → w3.ownsRow wY.heap.size 32 1 (.slice (some ⟨gB, 0, none⟩) (q + 1) cB) (q + 1) ((((L.take q).map (nmR R)).map (Value.int .u32)) ++ [.int .u32 pi]) →
                    w3.heap[yb]? = some (.cells #[.slice ya q yc, .slice va q vc] 108 (0, 0)) ∧ w3.ownsRow wY.heap.size 2 1 (.slice (some ⟨gA, 0, none⟩) (q + 1) cA) (q + 1) (((L.take (q + 1)).map (yvR R)).map (Value.int .i64)) ∧ w3.ownsRow wY.heap.size 32 1 (.slice (some ⟨gB, 0, none⟩) (q + 1) cB) (q + 1) (((L.take (q + 1)).map (nmR R)).map (Value.int .u32)) ∧ KpS (fun k => k = yb) wY w3) := fun w2 w3 gA cA gB cB K2 hA K3 hB => by
                  have hy2 := blkK K2 HYP.out HYNE.out
                  have hn2 := rowK HVNP.out K2 (fun g e h => rows_ne HVNP.out HVYP.out (by decide) g e h)
                  have hy3 := blkK K3 hy2 (fun h => row_ne hn2 hy2 (by decide) yb h rfl)
                  refine ⟨hy3, ?_, ?_, ?_⟩
                  · rw [HYT.out, List.map_append]
                    exact rowK hA K3 (fun g e h => rows_ne hA hn2 (by decide) g e h)
                  · rw [HNT.out, List.map_append]
                    exact hB
                  · have hW2 := K2.size
                    exact ((HKP.out.mono (S' := fun k => k = yb ∨ wY.heap.size ≤ k) (fun k h => .inl h)).trans ((K2.mono (fun k h => .inr (HYL.out k h).1)).trans (K3.mono (fun k h => .inr (HNL.out k h).1)))).strip
                clear ewP hbP hxP hyP keep hYne hPne x0 x1 x2 hpb HYq HVY HVN HKq HYT HNT
                refine wp_region_head (fun W => ∃ p : KeptW (fun k => (Value.slice ya q yc).ownBlock = some k) wP, W = p.W) [11, 13, 14, 15] [(0, false), (1, true), (2, false), (3, true), (6, false), (7, true), (8, false), (9, true)] (by kernel_rfl) (by kernel_rfl) (fun _ _ d _ _ h => by cases d <;> exact h) ⟨⟨_, (KpS.refl _ _).drew⟩, rfl⟩ 8 rfl (by kernel_rfl) ?_
                simp only [pickB, List.filterMap_cons, List.filterMap_nil, List.getElem?_toArray, List.getElem?_cons_succ, List.getElem?_cons_zero, Option.map_some]
                repeat (refine wpHd_step (fun K hK => ?_); go_simp; first | (refine hK _ ?_; clear hK K) | (apply Exists.intro; refine ⟨fun _ => ?_, hK _ ?_⟩; rfl; clear hK K))
                refine wpHd_nil ?_
                have K0 : KpS (fun _ => False) wP wP.drew := (KpS.refl _ wP).drew
                have hs0 : wP.drew.heap.size = wP.heap.size := rfl
                refine wpAnyT_ready [4, 10] (by kernel_rfl) (by simp) ?_
                refine AllReadyT.cons rfl (fun K hK => ?_) (AllReadyT.cons rfl (fun K hK => ?_) AllReadyT.nil)
                · -- the number first
                  go_simp
                  obtain ⟨wa, ewa⟩ : ∃ wa, wa = (wP.alloc (.cells #[.int .i64 py] 2)).drew := ⟨_, rfl⟩
                  have Kwa : KpS (fun _ => False) wP wa := by rw [ewa]; exact ((KpS.refl _ wP).alloc _).drew
                  have Lwa : wa.heap[wP.heap.size]? = some (.cells #[.int .i64 py] 2 (0, 0)) := by rw [ewa]; exact lit0d _ _
                  have Swa : wP.heap.size < wa.heap.size := by rw [ewa]; show _ < (wP.alloc _).heap.size; simp
                  rw [← ewa]
                  refine hK _ _ (fun _ _ => ⟨⟨_, Kwa.mono (fun _ h => h.elim)⟩, rfl⟩) ?_
                  clear hK K ewa
                  refine wpAnyT_ready [5, 10] (by kernel_rfl) (by simp) ?_
                  refine AllReadyT.cons rfl (fun K hK => ?_) (AllReadyT.cons rfl (fun K hK => ?_) AllReadyT.nil)
                  · -- then it is appended
                    refine step_append1E elInt64 wY.heap.size (w := wa) (HVYA.out _ Kwa) [.int .i64 py] rfl (by simp [Value.oneCell']) rfl (.tmp 91) (.tmp 94) rfl rfl wP.heap.size rfl Lwa (by unfold maxLen; omega) (by omega) (by have := Kwa.size; omega) ?_
                    intro gA cA w2 hA2 hgA hblkA hltA
                    have K2 : KpS (fun k => (Value.slice ya q yc).ownBlock = some k) wP w2 := (Kwa.mono (fun _ h => h.elim)).grown hgA (fun k hk => .inl hk)
                    have s2 : wa.heap.size ≤ w2.heap.size := hgA.size
                    refine hK _ _ (fun _ _ => ⟨⟨_, K2⟩, rfl⟩) ?_
                    clear hK K
                    refine wpAnyT_next [(12, false)] (by kernel_rfl) (fun _ _ d _ _ h => by cases d <;> exact h) ⟨⟨_, K2⟩, rfl⟩ (by kernel_rfl) (by kernel_rfl) rfl ?_
                    simp only [pickB, List.filterMap_cons, List.filterMap_nil, List.getElem?_toArray, List.getElem?_cons_succ, List.getElem?_cons_zero, Option.map_some]
                    repeat (refine wpHd_step (fun K hK => ?_); go_simp; first | (refine hK _ ?_; clear hK K) | (apply Exists.intro; refine ⟨fun _ => ?_, hK _ ?_⟩; rfl; clear hK K))
                    refine wpHd_nil ?_
                    refine wpAnyT_ready [10] (by kernel_rfl) (by simp) ?_
                    refine AllReadyT.cons rfl (fun K hK => ?_) AllReadyT.nil
                    go_simp
                    obtain ⟨wb, ewb⟩ : ∃ wb, wb = w2.alloc (.cells #[.int .u32 pi] 32) := ⟨_, rfl⟩
                    have Kb : KpS (fun k => (Value.slice ya q yc).ownBlock = some k) wP wb := by rw [ewb]; exact K2.alloc _
                    have Lb : wb.heap[w2.heap.size]? = some (.cells #[.int .u32 pi] 32 (0, 0)) := by rw [ewb]; exact lit0 _ _
                    have bb : Below w2.heap.size w2 wb := by rw [ewb]; exact (Below.refl _ _).alloc (Nat.le_refl _) _
                    rw [← ewb]
                    refine hK _ _ (fun _ _ => ⟨⟨_, Kb⟩, rfl⟩) ?_
                    clear hK K ewb
                    have sb := bb.size
                    have hn2 := rowK HVNP.out K2 (fun g e h => rows_ne HVNP.out HVYP.out (by decide) g e h)
                    refine wpAnyT_ready [11] (by kernel_rfl) (by simp) ?_
                    refine AllReadyT.cons rfl (fun K hK => ?_) AllReadyT.nil
                    refine step_append1E elU32 wY.heap.size (w := wb) (ownsRow_below hn2 bb) [.int .u32 pi] rfl (by simp [Value.oneCell']) rfl (.tmp 97) (.tmp 100) rfl rfl w2.heap.size rfl Lb (by unfold maxLen; omega) (by omega) (by have := K2.size; omega) ?_
                    intro gB cB w3 hB3 hgB hblkB hltB
                    refine hK _ _ (fun _ h => absurd (by simp) h) ?_
                    clear hK K
                    refine wpAnyT_line [13, 14, 15] _ _ _ (by kernel_rfl) ?_
                    simp only [pick, List.filterMap_cons, List.filterMap_nil, List.getElem?_toArray, List.getElem?_cons_succ, List.getElem?_cons_zero]
                    have K3 : KpS (fun k => (Value.slice va q vc).ownBlock = some k) w2 w3 := ((KpS.refl _ w2).below bb).grown hgB (fun k hk => .inl hk)
                    obtain ⟨hy3, hA3, hB3', hKE⟩ := HEND.out w2 w3 gA cA gB cB K2 hA2 K3 hB3
                    have q0 : w3.cell? ⟨yb, 0, none⟩ = some (.slice ya q yc) := by simp [World.cell?, hy3]
                    have q1 : w3.cell? ⟨yb, 1, none⟩ = some (.slice va q vc) := by simp [World.cell?, hy3]
                    have f0 : w3.frozen? ⟨yb, 0, none⟩ = false := by simp [World.frozen?, hy3]
                    have f1 : w3.frozen? ⟨yb, 1, none⟩ = false := by simp [World.frozen?, hy3]
                    have HTS := Lib.hid (two_set hy3 hA3 hB3')
                    have HKE := Lib.hid hKE
                    clear hy3 hA3 hB3' hKE hA2 hB3 hgA hgB hblkA hblkB K2 k0 k1 k2 k3 HEND HVYA
                    go_wp2
                    go_roundg (m - (q + 1))
                    case measure => omega
                    case rel =>
                      obtain ⟨t1, t2, t3, t4⟩ := HTS.out
                      exact ⟨q + 1, _, _, by go_num, by omega, Nat.le_refl _, t1, t2, t3, HKE.out.trans t4⟩
                  · -- then the name
                    go_simp
                    obtain ⟨wb, ewb⟩ : ∃ wb, wb = wa.alloc (.cells #[.int .u32 pi] 32) := ⟨_, rfl⟩
                    have Kwb : KpS (fun _ => False) wP wb := by rw [ewb]; exact Kwa.alloc _
                    have Lwab : wb.heap[wP.heap.size]? = wa.heap[wP.heap.size]? := by rw [ewb]; exact Below.heap_alloc _ _ _ (by omega)
                    have Lwb : wb.heap[wa.heap.size]? = some (.cells #[.int .u32 pi] 32 (0, 0)) := by rw [ewb]; exact lit0 _ _
                    have Swb : wa.heap.size < wb.heap.size := by rw [ewb]; simp
                    rw [← ewb]
                    refine hK _ _ (fun _ _ => ⟨⟨_, Kwb.mono (fun _ h => h.elim)⟩, rfl⟩) ?_
                    clear hK K ewb
                    refine wpAnyT_ready [5] (by kernel_rfl) (by simp) ?_
                    refine AllReadyT.cons rfl (fun K hK => ?_) AllReadyT.nil
                    have La : wb.heap[wP.heap.size]? = some (.cells #[.int .i64 py] 2 (0, 0)) := Lwab.trans Lwa
                    refine step_append1E elInt64 wY.heap.size (w := wb) (HVYA.out _ Kwb) [.int .i64 py] rfl (by simp [Value.oneCell']) rfl (.tmp 91) (.tmp 94) rfl rfl wP.heap.size rfl La (by unfold maxLen; omega) (by omega) (by have := Kwb.size; omega) ?_
                    intro gA cA w2 hA2 hgA hblkA hltA
                    have K2 : KpS (fun k => (Value.slice ya q yc).ownBlock = some k) wP w2 := (Kwb.mono (fun _ h => h.elim)).grown hgA (fun k hk => .inl hk)
                    have s2 : wb.heap.size ≤ w2.heap.size := hgA.size
                    refine hK _ _ (fun _ _ => ⟨⟨_, K2⟩, rfl⟩) ?_
                    clear hK K
                    refine wpAnyT_next [(12, false)] (by kernel_rfl) (fun _ _ d _ _ h => by cases d <;> exact h) ⟨⟨_, K2⟩, rfl⟩ (by kernel_rfl) (by kernel_rfl) rfl ?_
                    simp only [pickB, List.filterMap_cons, List.filterMap_nil, List.getElem?_toArray, List.getElem?_cons_succ, List.getElem?_cons_zero, Option.map_some]
                    repeat (refine wpHd_step (fun K hK => ?_); go_simp; first | (refine hK _ ?_; clear hK K) | (apply Exists.intro; refine ⟨fun _ => ?_, hK _ ?_⟩; rfl; clear hK K))
                    refine wpHd_nil ?_
                    have hn2 := rowK HVNP.out K2 (fun g e h => rows_ne HVNP.out HVYP.out (by decide) g e h)
                    have Lb2 : w2.heap[wa.heap.size]? = some (.cells #[.int .u32 pi] 32 (0, 0)) := (hgA.block _ (by omega) (fun h => by have := (HYL.out _ h.symm).2; omega)).trans Lwb
                    refine wpAnyT_ready [11] (by kernel_rfl) (by simp) ?_
                    refine AllReadyT.cons rfl (fun K hK => ?_) AllReadyT.nil
                    refine step_append1E elU32 wY.heap.size (w := w2) hn2 [.int .u32 pi] rfl (by simp [Value.oneCell']) rfl (.tmp 97) (.tmp 100) rfl rfl wa.heap.size rfl Lb2 (by unfold maxLen; omega) (by omega) (by have := K2.size; omega) ?_
                    intro gB cB w3 hB3 hgB hblkB hltB
                    refine hK _ _ (fun _ h => absurd (by simp) h) ?_
                    clear hK K
                    refine wpAnyT_line [13, 14, 15] _ _ _ (by kernel_rfl) ?_
                    simp only [pick, List.filterMap_cons, List.filterMap_nil, List.getElem?_toArray, List.getElem?_cons_succ, List.getElem?_cons_zero]
                    have K3 : KpS (fun k => (Value.slice va q vc).ownBlock = some k) w2 w3 := (KpS.refl _ w2).grown hgB (fun k hk => .inl hk)
                    obtain ⟨hy3, hA3, hB3', hKE⟩ := HEND.out w2 w3 gA cA gB cB K2 hA2 K3 hB3
                    have q0 : w3.cell? ⟨yb, 0, none⟩ = some (.slice ya q yc) := by simp [World.cell?, hy3]
                    have q1 : w3.cell? ⟨yb, 1, none⟩ = some (.slice va q vc) := by simp [World.cell?, hy3]
                    have f0 : w3.frozen? ⟨yb, 0, none⟩ = false := by simp [World.frozen?, hy3]
                    have f1 : w3.frozen? ⟨yb, 1, none⟩ = false := by simp [World.frozen?, hy3]
                    have HTS := Lib.hid (two_set hy3 hA3 hB3')
                    have HKE := Lib.hid hKE
                    clear hy3 hA3 hB3' hKE hA2 hB3 hgA hgB hblkA hblkB K2 k0 k1 k2 k3 HEND HVYA
                    go_wp2
                    go_roundg (m - (q + 1))
                    case measure => omega
                    case rel =>
                      obtain ⟨t1, t2, t3, t4⟩ := HTS.out
                      exact ⟨q + 1, _, _, by go_num, by omega, Nat.le_refl _, t1, t2, t3, HKE.out.trans t4⟩
                · -- the name first
                  go_simp
                  obtain ⟨wa, ewa⟩ : ∃ wa, wa = (wP.alloc (.cells #[.int .u32 pi] 32)).drew := ⟨_, rfl⟩
                  have Kwa : KpS (fun _ => False) wP wa := by rw [ewa]; exact ((KpS.refl _ wP).alloc _).drew
                  have Lwa : wa.heap[wP.heap.size]? = some (.cells #[.int .u32 pi] 32 (0, 0)) := by rw [ewa]; exact lit0d _ _
                  have Swa : wP.heap.size < wa.heap.size := by rw [ewa]; show _ < (wP.alloc _).heap.size; simp
                  rw [← ewa]
                  refine hK _ _ (fun _ _ => ⟨⟨_, Kwa.mono (fun _ h => h.elim)⟩, rfl⟩) ?_
                  clear hK K ewa
                  refine wpAnyT_ready [4] (by kernel_rfl) (by simp) ?_
                  refine AllReadyT.cons rfl (fun K hK => ?_) AllReadyT.nil
                  go_simp
                  obtain ⟨wb, ewb⟩ : ∃ wb, wb = wa.alloc (.cells #[.int .i64 py] 2) := ⟨_, rfl⟩
                  have Kwb : KpS (fun _ => False) wP wb := by rw [ewb]; exact Kwa.alloc _
                  have Lwab : wb.heap[wP.heap.size]? = wa.heap[wP.heap.size]? := by rw [ewb]; exact Below.heap_alloc _ _ _ (by omega)
                  have Lwb : wb.heap[wa.heap.size]? = some (.cells #[.int .i64 py] 2 (0, 0)) := by rw [ewb]; exact lit0 _ _
                  have Swb : wa.heap.size < wb.heap.size := by rw [ewb]; simp
                  rw [← ewb]
                  refine hK _ _ (fun _ _ => ⟨⟨_, Kwb.mono (fun _ h => h.elim)⟩, rfl⟩) ?_
                  clear hK K ewb
                  refine wpAnyT_ready [5] (by kernel_rfl) (by simp) ?_
                  refine AllReadyT.cons rfl (fun K hK => ?_) AllReadyT.nil
                  refine step_append1E elInt64 wY.heap.size (w := wb) (HVYA.out _ Kwb) [.int .i64 py] rfl (by simp [Value.oneCell']) rfl (.tmp 91) (.tmp 94) rfl rfl wa.heap.size rfl Lwb (by unfold maxLen; omega) (by omega) (by have := Kwb.size; omega) ?_
                  intro gA cA w2 hA2 hgA hblkA hltA
                  have K2 : KpS (fun k => (Value.slice ya q yc).ownBlock = some k) wP w2 := (Kwb.mono (fun _ h => h.elim)).grown hgA (fun k hk => .inl hk)
                  have s2 : wb.heap.size ≤ w2.heap.size := hgA.size
                  refine hK _ _ (fun _ _ => ⟨⟨_, K2⟩, rfl⟩) ?_
                  clear hK K
                  refine wpAnyT_next [(12, false)] (by kernel_rfl) (fun _ _ d _ _ h => by cases d <;> exact h) ⟨⟨_, K2⟩, rfl⟩ (by kernel_rfl) (by kernel_rfl) rfl ?_
                  simp only [pickB, List.filterMap_cons, List.filterMap_nil, List.getElem?_toArray, List.getElem?_cons_succ, List.getElem?_cons_zero, Option.map_some]
                  repeat (refine wpHd_step (fun K hK => ?_); go_simp; first | (refine hK _ ?_; clear hK K) | (apply Exists.intro; refine ⟨fun _ => ?_, hK _ ?_⟩; rfl; clear hK K))
                  refine wpHd_nil ?_
                  have hn2 := rowK HVNP.out K2 (fun g e h => rows_ne HVNP.out HVYP.out (by decide) g e h)
                  have Lb2 : w2.heap[wP.heap.size]? = some (.cells #[.int .u32 pi] 32 (0, 0)) := (hgA.block _ (by omega) (fun h => by have := (HYL.out _ h.symm).2; omega)).trans (Lwab.trans Lwa)
                  refine wpAnyT_ready [11] (by kernel_rfl) (by simp) ?_
                  refine AllReadyT.cons rfl (fun K hK => ?_) AllReadyT.nil
                  refine step_append1E elU32 wY.heap.size (w := w2) hn2 [.int .u32 pi] rfl (by simp [Value.oneCell']) rfl (.tmp 97) (.tmp 100) rfl rfl wP.heap.size rfl Lb2 (by unfold maxLen; omega) (by omega) (by have := K2.size; omega) ?_
                  intro gB cB w3 hB3 hgB hblkB hltB
                  refine hK _ _ (fun _ h => absurd (by simp) h) ?_
                  clear hK K
                  refine wpAnyT_line [13, 14, 15] _ _ _ (by kernel_rfl) ?_
                  simp only [pick, List.filterMap_cons, List.filterMap_nil, List.getElem?_toArray, List.getElem?_cons_succ, List.getElem?_cons_zero]
                  have K3 : KpS (fun k => (Value.slice va q vc).ownBlock = some k) w2 w3 := (KpS.refl _ w2).grown hgB (fun k hk => .inl hk)
                  obtain ⟨hy3, hA3, hB3', hKE⟩ := HEND.out w2 w3 gA cA gB cB K2 hA2 K3 hB3
                  have q0 : w3.cell? ⟨yb, 0, none⟩ = some (.slice ya q yc) := by simp [World.cell?, hy3]
                  have q1 : w3.cell? ⟨yb, 1, none⟩ = some (.slice va q vc) := by simp [World.cell?, hy3]
                  have f0 : w3.frozen? ⟨yb, 0, none⟩ = false := by simp [World.frozen?, hy3]
                  have f1 : w3.frozen? ⟨yb, 1, none⟩ = false := by simp [World.frozen?, hy3]
                  have HTS := Lib.hid (two_set hy3 hA3 hB3')
                  have HKE := Lib.hid hKE
                  clear hy3 hA3 hB3' hKE hA2 hB3 hgA hgB hblkA hblkB K2 k0 k1 k2 k3 HEND HVYA
                  go_wp2
                  go_roundg (m - (q + 1))
                  case measure => omega
                  case rel =>
                    obtain ⟨t1, t2, t3, t4⟩ := HTS.out
                    exact ⟨q + 1, _, _, by go_num, by omega, Nat.le_refl _, t1, t2, t3, HKE.out.trans t4⟩
              · obtain rfl : q = m := by omega
                have hVY := HVY.out
                have hVN := HVN.out
                rw [List.take_of_length_le (by rw [HLM.out]; exact Nat.le_refl _)] at hVY hVN
                have htr := blkK HKq.out HTY.out (fun h => by omega)
                have hyr := HYq.out
                obtain ⟨ya, yc, rfl⟩ := rowV hVY
                obtain ⟨va, vc, rfl⟩ := rowV hVN
                obtain ⟨la, lc, rfl⟩ := rowV HBLY.out.lst
                have HBLr : Hid (BdL wr w7.heap.size R (nds i) j LY LN (.slice la j lc)) := HBL9.out.kept (HK9Y.out.trans HKq.out) (fun b h1 h2 h3 => by omega)
                have HKr : Hid (KpS (fun k => k = tb) w7 wr) := ((HKY.out.mono (S' := fun k => k = tb ∨ w7.heap.size ≤ k) (fun k h => .inl h)).trans (HKq.out.mono (fun k h => .inr (by omega)))).strip
                have hsr := HKq.out.size
                have g0 := cell_belowW (w := wr) (ad := ⟨tb, 4, none⟩) (v := .slice la j lc) (by simp [World.cell?, htr])
                have g1 := cell_belowW (w := wr) (ad := ⟨yb, 0, none⟩) (v := .slice ya q yc) (by simp [World.cell?, hyr])
                have g2 := cell_belowW (w := wr) (ad := ⟨yb, 1, none⟩) (v := .slice va q vc) (by simp [World.cell?, hyr])
                have HTr := Lib.hid htr
                have HVYr := Lib.hid hVY
                have HVNr := Lib.hid hVN
                have htlr := (Array.getElem?_eq_some_iff.1 htr).1
                have HQL : Hid (q = L.length) := HLM.out.symm
                clear htr hyr hVY hVN HVY HVN HYq HKq HTY HRY HXY HKY
                go_upto_region 26 with fail
                refine wp_region_head (fun W => ∃ p : BelowW wr, W = p.W) [7, 8, 9, 10] [(0, false), (1, false), (2, false), (3, false), (4, true), (5, true)] (by kernel_rfl) (by kernel_rfl) (fun _ _ d _ _ h => by cases d <;> exact h) ⟨⟨_, (Below.refl _ _).drew⟩, rfl⟩ 5 rfl (by kernel_rfl) ?_
                simp only [pickB, List.filterMap_cons, List.filterMap_nil, List.getElem?_toArray, List.getElem?_cons_succ, List.getElem?_cons_zero, Option.map_some]
                repeat (refine wpHd_step (fun K hK => ?_); go_simp; first | (refine hK _ ?_; clear hK K) | (apply Exists.intro; refine ⟨fun _ => ?_, hK _ ?_⟩; rfl; clear hK K))
                refine wpHd_nil ?_
                refine wpAnyT_ready [6] (by kernel_rfl) (by simp) ?_
                refine AllReadyT.cons rfl (fun K hK => ?_) AllReadyT.nil
                go_simp
                obtain ⟨wa, ewa⟩ : ∃ wa, wa = (wr.alloc (.cells #[.slice ya q yc, .slice va q vc] 108)).drew := ⟨_, rfl⟩
                have ba : Below wr.heap.size wr wa := by rw [ewa]; exact ((Below.refl _ wr).alloc (Nat.le_refl _) _).drew
                have La : wa.heap[wr.heap.size]? = some (.cells #[.slice ya q yc, .slice va q vc] 108 (0, 0)) := by rw [ewa]; exact lit0d _ _
                rw [← ewa]
                refine hK _ _ (fun _ _ => ⟨⟨_, ba⟩, rfl⟩) ?_
                clear hK K ewa
                have sa := ba.size
                have HBLa := HBLr.out.kept ((KpS.refl (fun _ => False) wr).below ba) (fun _ _ _ h => h)
                refine wpAnyT_ready [7] (by kernel_rfl) (by simp) ?_
                refine AllReadyT.cons rfl (fun K hK => ?_) AllReadyT.nil
                refine step_append1E elBL w7.heap.size (w := wa) HBLa.lst [.slice ya q yc, .slice va q vc] rfl (by simp [Value.oneCell']) rfl (.tmp 109) (.tmp 111) rfl rfl wr.heap.size rfl La (by unfold maxLen; omega) (by omega) (by omega) ?_
                intro gA cA w2 hA2 hgA hblkA hltA
                refine hK _ _ (fun _ h => absurd (by simp) h) ?_
                clear hK K
                refine wpAnyT_line [8, 9, 10] _ _ _ (by kernel_rfl) ?_
                simp only [pick, List.filterMap_cons, List.filterMap_nil, List.getElem?_toArray, List.getElem?_cons_succ, List.getElem?_cons_zero]
                have K2 : KpS (fun k => (Value.slice la j lc).ownBlock = some k) wa w2 := (KpS.refl _ wa).grown hgA (fun k hk => .inl hk)
                have hva := ownsRow_below HVYr.out ba
                have hvn := ownsRow_below HVNr.out ba
                have hy2 := rowK hva K2 (fun g e h => rows_ne HBLa.lst hva (by decide) g h e)
                have hn2 := rowK hvn K2 (fun g e h => rows_ne HBLa.lst hvn (by decide) g h e)
                have ht2 := blkK K2 ((ba.block tb htlr).trans HTr.out) (fun h => by have := (HBLa.lst.lt tb h).1; omega)
                have HLA : Hid (L = lk (nds i) (ysOf R) j) := HL.out
                have hmore : BdL w2 w7.heap.size R (nds i) (j + 1) (upd LY j (.slice ya q yc)) (upd LN j (.slice va q vc)) (.slice (some ⟨gA, 0, none⟩) (j + 1) cA) := by
                  refine BdL.more HBLY.out HBLa (Nat.le_refl _) (by omega) K2 hA2 ?_ ?_
                  · rw [← HLA.out, ← HQL.out]; exact hy2
                  · rw [← HLA.out, ← HQL.out]; exact hn2
                have HK2 : Hid (KpS (fun k => k = tb) w7 w2) := ((HKr.out.below ba).mono (S' := fun k => k = tb ∨ w7.heap.size ≤ k) (fun k h => .inl h) |>.trans (K2.mono (fun k h => .inr (HBLa.lst.lt k h).1))).strip
                have HM := Lib.hid hmore
                have HT2 := Lib.hid ht2
                have c4 : w2.cell? ⟨tb, 4, none⟩ = some (.slice la j lc) := by simp [World.cell?, ht2]
                have z4 : w2.frozen? ⟨tb, 4, none⟩ = false := by simp [World.frozen?, ht2]
                clear hmore ht2 hy2 hn2 hva hvn K2 HBLa hA2 hgA hblkA La ba g0 g1 g2 HBLr HKr HTr HVYr HVNr HBLY HBL9
                go_wp2
                go_roundg (M - (j + 1))
                case measure => omega
                case rel =>
                  have KT : KpS (fun k => k = tb) w2 (w2.setCell ⟨tb, 4, none⟩ (.slice (some ⟨gA, 0, none⟩) (j + 1) cA)) := (KpS.refl _ w2).set (a := ⟨tb, 4, none⟩) _ (.inl rfl)
                  exact ⟨j + 1, _, _, _, by go_num, by omega, Nat.le_refl _, heap_setCell_same w2 tb 4 _ _ _ HT2.out, HM.out.kept KT (fun b h1 h2 h3 => by omega), HK2.out.trans KT⟩
          · obtain rfl : j = M := by omega
            have htr := HTr.out
            have hBL := HBL.out
            rw [HMM.out] at hBL
            have hK := HKr.out
            have hs7r := hK.size
            have r1 := rowK HRW7.out hK (fun g h h2 => row_ne HRW7.out HT7.out (by decide) g h h2.symm)
            have r2 := rowK HXS7.out hK (fun g h h2 => row_ne HXS7.out HT7.out (by decide) g h h2.symm)
            have r3 := rowK HGN7.out hK (fun g h h2 => row_ne HGN7.out HT7.out (by decide) g h h2.symm)
            have r4 := rowK HFR7.out.row hK (fun g h h2 => row_ne HFR7.out.row HT7.out (by decide) g h h2.symm)
            have r5 := blkK hK HFR7.out.blk (fun e => blk_ne HFR7.out.blk HT7.out (by decide) e)
            have fin : BndAt wr w.heap.size wr.heap.size tb fb R (List.replicate R.length false) (ysOf R).length (lk (nds R.length) (ysOf R)) ⟨.slice ra i rc, .slice xa i xc, gv, lv, fv, LY, LN⟩ := by
              have hyl := ysOf_len R
              refine ⟨?_, ⟨htb, by omega, hfb2.1, (Array.getElem?_eq_some_iff.1 r5).1, Nat.le_refl _⟩, ?_, ?_, ?_, ⟨?_, ?_⟩, ?_, ?_, ?_, ?_, ?_, ?_, ?_, ?_⟩
              · rw [hyl, hRl]; exact htr
              · rw [hRl]; exact r1
              · rw [hRl]; exact r2
              · rw [hRl]; exact r3
              · rw [hRl]; exact r5
              · rw [hRl]; exact r4
              · rw [hRl]; exact rowMono hBL.lst hs7
              · rw [hRl]; exact fun k hk => rowMono (hBL.yss k hk) hs7
              · rw [hRl]; exact fun k hk => rowMono (hBL.nam k hk) hs7
              · intro v hv g hg
                rcases hv with e | e | e | e | e
                · exact (r1.lt g (by rw [← show v = .slice ra i rc from e]; exact hg)).2
                · exact (r2.lt g (by rw [← show v = .slice xa i xc from e]; exact hg)).2
                · exact (r3.lt g (by rw [← show v = gv from e]; exact hg)).2
                · exact (hBL.lst.lt g (by rw [← show v = lv from e]; exact hg)).2
                · exact (r4.lt g (by rw [← show v = fv from e]; exact hg)).2
              · rw [hRl]; exact fun k hk => ⟨fun g hg => ((hBL.yss k hk).lt g hg).2, fun g hg => ((hBL.nam k hk).lt g hg).2⟩
              · rw [hRl]
                intro k hk g h1 h2
                have h3 := ((hBL.yss k hk).lt g h2).1
                have h4 := (HXS7.out.lt g h1).2
                omega
              · rw [hRl]; exact hBL.neY
              · rw [hRl]; exact hBL.neN
            have HFIN := Lib.hid fin
            have HBR : Hid (Below w.heap.size w wr) := HB7.out.trans (hK.toBelow hs7 (fun k h => by omega))
            clear fin r1 r2 r3 r4 r5 htr hBL hK
            go_wp2
            go_ret2
            exact ⟨tb, fb, _, rfl, HFIN.out, HBR.out⟩
end Go.Proofs.YthpgkldpbbajfaaGreat
