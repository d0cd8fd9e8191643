/- low: unlike, Build. -/
import Derived.Test.YtggfdlanobndjaaGreatLwD
import Derived.Test.YtggfdlanobndjaaGreatLwE
import Derived.Test.YtggfdlanobndjaaGreatHpG
namespace Go.Proofs.YtggfdlanobndjaaGreat
open Go.RowKit Go.Sort Go.Shelf Go.Lib Go.Maps
attribute [local irreducible] wpQuiet
attribute [local go_sem] Oper.still1
set_option linter.unusedSimpArgs false
set_option linter.unusedVariables false

set_option maxRecDepth 100000 in
set_option maxHeartbeats 2000000 in
theorem low_unlike (a : Option Addr) (c : Nat) (l : List Pt) (w : World) (hl : RdK ePt 3 w a l) (hn : l.length ≤ 1000000) (hw : wfN l) :
    Calls Tryz.prog 73 #[.slice a l.length c] w fun e w' => e = .returned (.bool (unl l)) ∧ Below w.heap.size w w' := by
  have HR := Lib.hid hl
  have HW := Lib.hid hw
  clear hl hw
  have hmm := @run_makeMap Tryz.prog
  go_enter Tryz.func73, Tryz.ntmps73
  go_wp2
  go_loopw [9] (fun iv wr => ∃ i : Nat, iv = .int .i64 i ∧ i ≤ l.length ∧ Below w.heap.size w wr ∧ Hid (∃ (D : DataW Unit), wr.ownsMap Tryz.prog 32 (plainElem Tryz.prog 3) w.heap.size i D ∧ PlcAt D l i)) (fun iv _ => l.length - (intOf iv).toNat)
  case atStart => exact ⟨0, rfl, Nat.zero_le _, (Below.refl _ _).alloc (Nat.le_refl _) _, ⟨.map [], World.ownsMap_made _ _ _ _, [], IsM.empty _ _⟩⟩
  case round =>
    obtain ⟨i, rfl, hi, hb, HO⟩ := hrel
    by_cases hil : i < l.length
    · obtain ⟨b, off, ea, hbl, hcs⟩ := (HR.out.below hb).get (by omega)
      have x0 := hcs i hil 0 (by omega)
      have x1 := hcs i hil 1 (by omega)
      have x2 := hcs i hil 2 (by omega)
      simp only [ePt, List.getElem?_cons_zero, List.getElem?_cons_succ, Nat.add_zero] at x0 x1 x2
      have hkey : Hid (keyOf Tryz.prog 32 (.int .u32 l[i].2.2) = some (.int .u32 l[i].2.2)) := keyOf_int_mk Tryz.underlying32 (HW.out _ (List.getElem_mem _))
      obtain ⟨D, hown0, hD⟩ := HO.out
      have HD2 := Lib.hid (hD.put hil)
      have hS2 := hb.size
      have EA := Lib.hid ea
      clear HO hcs hD ea
      generalize l[i] = p at *
      obtain ⟨px, py, pi⟩ := p
      obtain rfl := EA.out
      clear EA
      have hown := hown0.kept (World.grownBy_alloc wr (.cells #[.int .i64 px, .int .i64 py, .int .u32 pi] 34) none) (by simp)
      go_wp2_with (at_mapUpdate; refine wpList_mapUpdate_own _ rfl _ _ _ 69 rfl 32 3 (int_keyed Tryz.underlying32) Tryz.underlying69 _ w.heap.size i _ rfl hown (by unfold maxLen; omega) _ _ _ rfl rfl hkey.out _ [] (plainElem_int Tryz.underlying3 (by simp [Lit.wf, IntKind.min, IntKind.max, IntKind.bits, IntKind.signed]; omega)) ?_; intro w3 hown3 hgrow3)
      have B3 : Below w.heap.size wr w3 := (((Below.refl _ wr).alloc (by omega) _)).grown hgrow3 (by simp; omega) (fun j ej => by cases ej; omega)
      have HO3 : Hid (∃ (D : DataW Unit), w3.ownsMap Tryz.prog 32 (plainElem Tryz.prog 3) w.heap.size (i + 1) D ∧ PlcAt D l (i + 1)) := ⟨_, hown3, HD2.out⟩
      have B4 := hb.trans B3
      clear hown3 hgrow3 hown hown0 HD2
      go_wp2
      go_roundw
      case rel => exact ⟨i + 1, by go_num, by omega, B4, HO3⟩
      case measure => simp [intOf]; omega
    · obtain rfl : i = l.length := by omega
      obtain ⟨D, hown, hD⟩ := HO.out
      have hsize := hD.size
      have HS := Lib.hid hsize
      clear hsize hD HO
      go_wp2_with (at_len; refine wpList_len_own _ rfl _ 69 rfl 32 3 Tryz.underlying69 _ w.heap.size _ _ rfl hown ?_)
      go_ret
      exact ⟨by rw [HS.out]; rfl, hb⟩

set_option maxRecDepth 100000 in
set_option maxHeartbeats 4000000 in
theorem low_build_bad (a : Option Addr) (c : Nat) (l : List Pt) (w : World) (hl : RdK ePt 3 w a l) (hn : l.length ≤ 40000) (hw : wfN l) (hu : unl l = false) :
    Calls Tryz.prog 32 #[.slice a l.length c] w fun e w' => e = .returned (.tuple #[.pointer none, .int .i64 2]) ∧ Below w.heap.size w w' := by
  have CU := low_unlike a c l w hl (by omega) hw
  rw [hu] at CU
  obtain ⟨n, hnn⟩ : ∃ n, n = l.length := ⟨_, rfl⟩
  rw [← hnn] at hn CU ⊢
  clear hnn hl
  have d1 : decide ((n : Int) > 2147483648) = false := by simp; omega
  have d2 : decide ((2147483648 : Int) < (n : Int)) = false := by simp; omega
  have d3 : decide (2147483648 < n) = false := by simp; omega
  go_enter Tryz.func32, Tryz.ntmps32
  go_wp2_with (go_at_call 73; refine CU.mono ?_; rintro e w1 ⟨rfl, hb⟩)
  go_ret2
  exact ⟨rfl, hb⟩


/-- more room -/
theorem LptAt.grow {w : World} {lo hi hi' tb fb : Nat} {R : List Pt} {h : Hld} {cnt : Int} {V : HepV} (H : LptAt w lo hi tb fb R h cnt V) (h1 : hi ≤ hi') (h2 : hi' ≤ w.heap.size) : LptAt w lo hi' tb fb R h cnt V :=
  ⟨H.blk, ⟨H.tbr.1, by have := H.tbr.2.1; omega, H.tbr.2.2.1, by have := H.tbr.2.2.2.1; omega, h2⟩, H.row, H.xs, H.frm, H.nod, H.hld, fun v hv g e => Nat.lt_of_lt_of_le (H.top v hv g e) h1⟩
theorem hlF_zero (n : Nat) : hlF (fun _ => some 0) n = List.replicate n (.int .i64 0) := by
  unfold hlF
  refine List.ext_getElem (by simp) fun i h1 h2 => ?_
  simp [eHo]
def BuildPL (w : World) (R : List Pt) (e : Ending) (w' : World) : Prop :=
  ∃ tb fb V, e = .returned (.tuple #[.pointer (some ⟨tb, 0, none⟩), .int .i64 0]) ∧ LptAt w' w.heap.size w'.heap.size tb fb R (bst (nds R.length) (ysOf R)) R.length V ∧ Below w.heap.size w w'
/-- what Build has laid: the row, the frame and its nodes -/
structure LbR (w : World) (lo fb n : Nat) (rv nv fv : Value) (l : List Pt) : Prop where
  row : w.ownsRow lo 34 3 rv n (l.flatMap ePt)
  nod : w.ownsRow lo 119 7 nv (nds n).length ((nds n).flatMap eNd)
  frm : FrmAt w lo fb n fv
  lof : lo ≤ fb
theorem LbR.kept {S : Nat → Prop} {w w' : World} {lo fb n : Nat} {rv nv fv : Value} {l : List Pt} (h : LbR w lo fb n rv nv fv l) (K : KpS S w w') (hS : ∀ k, k < w.heap.size → S k → ∃ cs t fr, w.heap[k]? = some (.cells cs t fr) ∧ t ≠ 34 ∧ t ≠ 119 ∧ t ≠ 149) : LbR w' lo fb n rv nv fv l := by
  refine ⟨rowE h.row K fun k h1 h2 => ?_, rowE h.nod K fun k h1 h2 => ?_, ⟨blkK K h.frm.blk fun h2 => ?_, rowE h.frm.row K fun k h1 h2 => ?_⟩, h.lof⟩
  · obtain ⟨cs, t, fr, a, b, c, d⟩ := hS k h1 h2; exact ⟨cs, t, fr, a, b⟩
  · obtain ⟨cs, t, fr, a, b, c, d⟩ := hS k h1 h2; exact ⟨cs, t, fr, a, c⟩
  · have hl := (Array.getElem?_eq_some_iff.1 h.frm.blk).1
    obtain ⟨cs, t, fr, a, b, c, d⟩ := hS fb hl h2
    have := a.symm.trans h.frm.blk
    injection this with this
    injection this with _ this _
    exact d this
  · obtain ⟨cs, t, fr, a, b, c, d⟩ := hS k h1 h2; exact ⟨cs, t, fr, a, c⟩
/-- the nodes ahead of i know their best -/
def hUpto (N : List Nd) (YS : List Nat) (i : Nat) : Hld := fun k => if k < i then bst N YS k else some 0

theorem at_wf {n : Nat} {t : FT} {s : Nat} (ha : FT.At (nds n) t s) : t.wf ∧ t.hi ≤ n := by
  have h0 := nds_pos ha
  obtain ⟨w1, w2, w3⟩ := mkT_spec 0 n h0
  have hm := FT.at_mem (nds_eq h0 ▸ ha)
  have := FT.subs_rng (mkT 0 n) 0 w1 _ hm
  exact ⟨FT.subs_wf _ 0 w1 _ hm, by simp only at this; omega⟩
set_option maxRecDepth 100000 in
set_option maxHeartbeats 8000000 in
theorem low_build (a : Option Addr) (c : Nat) (l : List Pt) (w : World) (hl : RdK ePt 3 w a l) (hn : l.length ≤ 20000) (hw : wfN l) (hu : unl l = true) :
    Calls Tryz.prog 32 #[.slice a l.length c] w (BuildPL w (srtX l)) := by
  have CU := low_unlike a c l w hl (by omega) hw
  rw [hu] at CU
  have HL := Lib.hid hl
  obtain ⟨n, hnn⟩ : ∃ n, n = l.length := ⟨_, rfl⟩
  have CC := Lib.hid (fun W (hb : Below w.heap.size w W) => clonePts a l n c W hnn.symm (hl.below hb) (by omega))
  have HNN := Lib.hid hnn
  rw [← hnn] at hn CU ⊢
  have CF := Lib.hid (fun W => frame_new n (by omega) W)
  clear hnn hl
  have d1 : decide ((n : Int) > 2147483648) = false := by simp; omega
  have d2 : decide ((2147483648 : Int) < (n : Int)) = false := by simp; omega
  have d3 : decide (2147483648 < n) = false := by simp; omega
  have hidu : (ids l).Nodup := by unfold unl at hu; simpa using hu
  have HIU := Lib.hid hidu
  clear hidu hu hw
  go_enter Tryz.func32, Tryz.ntmps32
  go_wp2_with (go_at_call 73; refine CU.mono ?_; rintro e w1 ⟨rfl, hb1⟩; clear CU)
  go_wp2_with fail
  refine (CF.out w1).mono ?_
  rintro e w2 ⟨rfl, ew2⟩
  have HB2 : Hid (Below w.heap.size w w2) := by rw [ew2]; exact hb1.alloc hb1.size _
  have HF2 : Hid (w2.heap[w1.heap.size]? = some (oFrm 0 0 (.slice none 0 0) n)) := by rw [ew2]; exact lit0 w1 _
  obtain ⟨fb, hfb⟩ : ∃ fb, fb = w1.heap.size := ⟨_, rfl⟩
  have hfb2 : w.heap.size ≤ fb ∧ fb < w2.heap.size := by rw [ew2, hfb]; exact ⟨hb1.size, by simp⟩
  rw [← hfb] at HF2 ⊢
  clear ew2 hb1 hfb CF
  go_wp2_with fail
  refine (CC.out w2 HB2.out).mono ?_
  rintro e w3 ⟨rv, rfl, hr3, hb3⟩
  have hf3 := (hb3.block fb hfb2.2).trans HF2.out
  have HB3 : Hid (Below w.heap.size w w3) := HB2.out.trans (hb3.mono HB2.out.size)
  have HR3 := Lib.hid (rowMono hr3 HB2.out.size)
  have CN := Lib.hid (frame_nodes_first fb n (by omega) w3 hf3)
  have HF3 := Lib.hid hf3
  obtain ⟨ra, rc, rfl⟩ := rowV hr3
  clear hr3 hb3 hf3 CC HF2 HB2
  go_wp2_with fail
  refine CN.out.mono ?_
  rintro e w4 ⟨fv, nv, rfl, hfr, hnr, hfb4, hk4⟩
  have hs3 := HB3.out.size
  have HRW4 : Hid (w4.ownsRow w.heap.size 34 3 (.slice ra n rc) n (l.flatMap ePt)) := rowN HR3.out (by decide) HF3.out hk4
  have HFR4 : Hid (FrmAt w4 w.heap.size fb n fv) := ⟨hfb4, rowMono hfr hs3⟩
  have HND4 : Hid (w4.ownsRow w.heap.size 119 7 nv (nds n).length ((nds n).flatMap eNd)) := rowMono hnr hs3
  have HB4 : Hid (Below w.heap.size w w4) := HB3.out.trans (hk4.toBelow hs3 (fun k h => by have := hfb2.1; omega))
  obtain ⟨na, nc, rfl⟩ := rowV hnr
  obtain ⟨M, hM⟩ : ∃ M, M = (nds n).length := ⟨_, rfl⟩
  have HMM := Lib.hid hM
  have hM4 : M ≤ 40000 := by rw [hM, nds_len]; omega
  rw [← hM]
  clear hfr hnr hfb4 hk4 CN hM HR3 HF3 HB3
  go_upto_region 9 with fail
  obtain ⟨wc, ewc⟩ : ∃ wc, wc = w4.alloc (.cells #[.slice ra n rc, .slice none 0 0, .pointer (some ⟨fb, 0, none⟩), .slice na M nc, .slice none 0 0, .int .i64 n] 125) := ⟨_, rfl⟩
  have hb4c : Below w4.heap.size w4 wc := by rw [ewc]; exact (Below.refl _ _).alloc (Nat.le_refl _) _
  obtain ⟨tb, htb⟩ : ∃ tb, tb = w4.heap.size := ⟨_, rfl⟩
  have hT : wc.heap[tb]? = some (lowB (.slice ra n rc) (.slice none 0 0) fb (.slice na M nc) (.slice none 0 0) n) := by rw [ewc, htb]; exact lit0 w4 _
  rw [← ewc, ← htb]
  have HR : Hid (LbR wc w.heap.size fb n (.slice ra n rc) (.slice na M nc) fv l) := by
    have K : KpS (fun _ => False) w4 wc := (KpS.refl _ w4).below hb4c
    exact ⟨rowK HRW4.out K (fun _ _ h => h), by rw [← HMM.out]; have := rowK HND4.out K (fun _ _ h => h); rwa [← HMM.out] at this, ⟨blkK K HFR4.out.blk (fun h => h), rowK HFR4.out.row K (fun _ _ h => h)⟩, hfb2.1⟩
  have HT := Lib.hid hT
  have HB : Hid (Below w.heap.size w wc) := HB4.out.trans (hb4c.mono HB4.out.size)
  have htbs : w.heap.size ≤ tb := by rw [htb]; exact HB4.out.size
  clear ewc hb4c hT HRW4 HFR4 HND4 HB4 htb
  have htl := (Array.getElem?_eq_some_iff.1 HT.out).1
  have CS := Lib.hid (sortPtsXK HNN.out.symm (by omega) HR.out.row HIU.out)
  have hTT := HT.out
  have c0 : wc.cell? ⟨tb, 0, none⟩ = some (.slice ra n rc) := by simp [World.cell?, hTT]
  clear hTT
  go_wp2_with fail
  refine CS.out.mono ?_
  rintro e w4 ⟨rfl, hr4, hk4⟩
  have hR4 : LbR w4 w.heap.size fb n (.slice ra n rc) (.slice na M nc) fv (srtX l) := by
    have h := HR.out
    refine ⟨hr4, rowE h.nod hk4 fun k h1 h2 => ?_, ⟨blkK hk4 h.frm.blk fun h2 => ?_, rowE h.frm.row hk4 fun k h1 h2 => ?_⟩, h.lof⟩
    · obtain ⟨cs, fr, e⟩ := rowBlk h.row h2; exact ⟨cs, _, fr, e, by decide⟩
    · exact row_ne h.row h.frm.blk (by decide) fb h2 rfl
    · obtain ⟨cs, fr, e⟩ := rowBlk h.row h2; exact ⟨cs, _, fr, e, by decide⟩
  have HT4 : Hid (w4.heap[tb]? = some (lowB (.slice ra n rc) (.slice none 0 0) fb (.slice na M nc) (.slice none 0 0) n)) := blkK hk4 HT.out (fun h => row_ne HR.out.row HT.out (by decide) tb h rfl)
  have HB4 : Hid (Below w.heap.size w w4) := HB.out.trans (hk4.toBelow HB.out.size (fun k h => (HR.out.row.lt k h).1))
  have HR4 := Lib.hid hR4
  have hRl : (srtX l).length = n := by rw [(srtX_perm l).length_eq]; exact HNN.out.symm
  have hRu : (ids (srtX l)).Nodup := ((srtX_perm l).map _).nodup_iff.2 HIU.out
  have HRS : Hid ((srtX l).Pairwise ltX ∧ (ids (srtX l)).Nodup) := ⟨srtX_sorted HIU.out, hRu⟩
  clear hr4 hk4 hR4 HR HT HB CS hRu c0 htl
  generalize hRR : srtX l = R at *
  clear hRR
  have htl := (Array.getElem?_eq_some_iff.1 HT4.out).1
  have htt := HT4.out
  have c0 : w4.cell? ⟨tb, 0, none⟩ = some (.slice ra n rc) := by simp [World.cell?, htt]
  clear htt
  go_wp2_with fail
  go_loopg [44] n (fun kx s44 wr => ∃ (i : Nat) (xv : Value), s44 = .int .i64 i ∧ i ≤ n ∧ n - i ≤ kx ∧ Hid (wr.heap[tb]? = some (lowB (.slice ra n rc) xv fb (.slice na M nc) (.slice none 0 0) n)) ∧ Hid (wr.ownsRow w4.heap.size 2 1 xv i (((xsR R).take i).map (Value.int .i64))) ∧ Hid (KpS (fun k => k = tb) w4 wr))
  case atStart => exact ⟨0, _, rfl, Nat.zero_le _, by omega, HT4, World.ownsRow_nil _ _ _ _, KpS.refl _ _⟩
  case round =>
    obtain ⟨i, xv, rfl, hi, hkx, HT5, HX5, HK5⟩ := hrel
    by_cases hin : i < n
    · have hrr := rowK HR4.out.row HK5.out (fun g h h2 => row_ne HR4.out.row HT4.out (by decide) g h h2.symm)
      obtain ⟨_, _, ee, -, -, hrd⟩ := RdK.of_owns ePt_len (by decide) hrr
      injection ee with e1 e2 e3
      subst e1
      clear e2 e3
      obtain ⟨b, off, ea, hbl, hcs⟩ := hrd.get (by omega)
      have x0 := hcs i (by omega) 0 (by omega)
      have x1 := hcs i (by omega) 1 (by omega)
      have x2 := hcs i (by omega) 2 (by omega)
      simp only [ePt, List.getElem?_cons_zero, List.getElem?_cons_succ, Nat.add_zero] at x0 x1 x2
      have hxt : (xsR R).take (i + 1) = (xsR R).take i ++ [R[i].1] := by
        have h : i < (xsR R).length := by unfold xsR; simp; omega
        rw [List.take_succ_eq_append_getElem h]
        simp [xsR]
      have HXT := Lib.hid hxt
      subst ea
      clear hcs hrd hxt hrr
      generalize R[i] = p at *
      obtain ⟨px, py, pi⟩ := p
      simp only at HXT x0 x1 x2
      have htc := HT5.out
      have htl5 := (Array.getElem?_eq_some_iff.1 htc).1
      obtain ⟨xa, xc, rfl⟩ := rowV HX5.out
      go_upto_region 13 with fail
      obtain ⟨w6, ew6⟩ : ∃ w6, w6 = wr.alloc (.cells #[.int .i64 px, .int .i64 py, .int .u32 pi] 34) := ⟨_, rfl⟩
      have hb6 : Below wr.heap.size wr w6 := by rw [ew6]; exact (Below.refl _ _).alloc (Nat.le_refl _) _
      have hx6 : w6.heap[wr.heap.size]? = some (.cells #[.int .i64 px, .int .i64 py, .int .u32 pi] 34 (0, 0)) := by rw [ew6]; exact lit0 wr _
      have ht6 := (hb6.block tb htl5).trans htc
      have hs45 := HK5.out.size
      have hs56 := hb6.size
      have hxb : ∀ g, (Value.slice xa i xc).ownBlock = some g → w4.heap.size ≤ g ∧ g < wr.heap.size := fun g h => HX5.out.lt g h
      have g1 := cell_belowW (w := w6) (ad := ⟨tb, 1, none⟩) (v := .slice xa i xc) (by simp [World.cell?, ht6])
      have g2 := cell_belowW (w := w6) (ad := ⟨wr.heap.size, 0, none⟩) (v := .int .i64 px) (by simp [World.cell?, hx6])
      have HX6 := Lib.hid (ownsRow_below HX5.out hb6)
      have HK6 : Hid (KpS (fun k => k = tb) w4 w6) := HK5.out.below hb6
      have HT6 := Lib.hid ht6
      rw [← ew6]
      clear ew6 hb6 hx6 ht6 htc x0 x1 x2
      refine wp_region_head (fun W => ∃ p : BelowW w6, W = p.W) [8, 9, 10, 11] [(0, false), (1, false), (2, false), (3, false), (4, true), (5, false), (6, true)] (by kernel_rfl) (by kernel_rfl) (fun _ _ d _ _ h => by cases d <;> exact h) ⟨⟨_, (Below.refl _ _).drew⟩, rfl⟩ 5 rfl (by kernel_rfl) ?_
      simp only [pickB, List.filterMap_cons, List.filterMap_nil, List.getElem?_toArray, List.getElem?_cons_succ, List.getElem?_cons_zero, Option.map_some]
      repeat (refine wpHd_step (fun K hK => ?_); go_simp; first | (refine hK _ ?_; clear hK K) | (apply Exists.intro; refine ⟨fun _ => ?_, hK _ ?_⟩; rfl; clear hK K))
      refine wpHd_nil ?_
      refine wpAnyT_ready [7] (by kernel_rfl) (by simp) ?_
      refine AllReadyT.cons rfl (fun K hK => ?_) AllReadyT.nil
      go_simp
      refine hK _ _ (fun _ _ => ⟨⟨_, ((Below.refl _ w6).alloc (Nat.le_refl _) _).drew⟩, rfl⟩) ?_
      clear hK K
      refine wpAnyT_ready [8] (by kernel_rfl) (by simp) ?_
      refine AllReadyT.cons rfl (fun K hK => ?_) AllReadyT.nil
      refine step_append1E elInt64 w4.heap.size (w := (w6.alloc (.cells #[.int .i64 px] 2)).drew) (ownsRow_below HX6.out ((Below.refl _ w6).alloc (Nat.le_refl _) _ |>.drew)) [.int .i64 px] rfl (by simp [Value.oneCell']) rfl (.tmp 52) (.tmp 55) rfl rfl w6.heap.size rfl (lit0d _ _) (by unfold maxLen; omega) (by omega) (by simp; omega) ?_
      intro ga capa w8 hown8 hg8 hblk8 hlt8
      have hg68 : w6.grownBy w8 (Value.slice xa i xc).ownBlock := grownBy_trans (below_asGrown ((Below.refl _ w6).alloc (Nat.le_refl _) _ |>.drew)) hg8
      have KA8 : KpS (fun k => (Value.slice xa i xc).ownBlock = some k) w6 w8 := (KpS.refl _ w6).grown hg68 (fun k hk => .inl hk)
      refine hK _ _ (fun _ h => absurd (by simp) h) ?_
      clear hK K
      refine wpAnyT_line [9, 10, 11] _ _ _ (by kernel_rfl) ?_
      simp only [pick, List.filterMap_cons, List.filterMap_nil, List.getElem?_toArray, List.getElem?_cons_succ, List.getElem?_cons_zero]
      have ht8 := blkK KA8 HT6.out (fun h => by have := (hxb tb h).1; omega)
      have q8 : w8.cell? ⟨tb, 1, none⟩ = some (.slice xa i xc) := by simp [World.cell?, ht8]
      have f8 : w8.frozen? ⟨tb, 1, none⟩ = false := by simp [World.frozen?, ht8]
      have HT9 : Hid ((w8.setCell ⟨tb, 1, none⟩ (.slice (some ⟨ga, 0, none⟩) (i + 1) capa)).heap[tb]? = some (lowB (.slice (some ⟨b, off, none⟩) n rc) (.slice (some ⟨ga, 0, none⟩) (i + 1) capa) fb (.slice na M nc) (.slice none 0 0) n)) := heap_setCell_same w8 tb 1 _ _ _ ht8
      have KT9 : KpS (fun k => k = tb) w8 (w8.setCell ⟨tb, 1, none⟩ (.slice (some ⟨ga, 0, none⟩) (i + 1) capa)) := (KpS.refl (fun k => k = tb) w8).set (a := ⟨tb, 1, none⟩) (.slice (some ⟨ga, 0, none⟩) (i + 1) capa) (.inl rfl)
      have HX9 : Hid ((w8.setCell ⟨tb, 1, none⟩ (.slice (some ⟨ga, 0, none⟩) (i + 1) capa)).ownsRow w4.heap.size 2 1 (.slice (some ⟨ga, 0, none⟩) (i + 1) capa) (i + 1) (((xsR R).take (i + 1)).map (Value.int .i64))) := by
        have h9 := rowK (S := fun k => k = tb) hown8 KT9 (fun g h h2 => by have := (hown8.lt g h).1; omega)
        show World.ownsRow _ _ _ _ _ _ _
        rw [HXT.out, List.map_append]
        exact h9
      have HK9 : Hid (KpS (fun k => k = tb) w4 (w8.setCell ⟨tb, 1, none⟩ (.slice (some ⟨ga, 0, none⟩) (i + 1) capa))) := ((HK6.out.mono (S' := fun k => k = tb ∨ w4.heap.size ≤ k) (fun k h => .inl h)).trans (KA8.mono (fun k h => .inr (hxb k h).1))).strip.set (a := ⟨tb, 1, none⟩) _ (.inl rfl)
      clear KA8 hg68 hg8 hown8 ht8 g1 g2 HX6 HT6 HK6 hxb HX5 HT5 HK5 KT9
      go_wp2
      go_roundg (n - (i + 1))
      case measure => omega
      case rel => exact ⟨i + 1, _, by go_num, by omega, Nat.le_refl _, HT9, HX9, HK9⟩
    · obtain rfl : i = n := by omega
      have HR5 : Hid (LbR wr w.heap.size fb i (.slice ra i rc) (.slice na M nc) fv R) := HR4.out.kept HK5.out (fun k h1 h2 => by subst h2; exact ⟨_, _, _, HT4.out, by decide, by decide, by decide⟩)
      have HB5 : Hid (Below w.heap.size w wr) := HB4.out.trans (HK5.out.toBelow HB4.out.size (fun k h => by omega))
      have hX5 := HX5.out
      rw [List.take_of_length_le (by unfold xsR; simp; omega)] at hX5
      have HXX := Lib.hid (rowMono hX5 HB4.out.size)
      have htT := HT5.out
      have c3 : wr.cell? ⟨tb, 3, none⟩ = some (.slice na M nc) := by simp [World.cell?, htT]
      have c4 : wr.cell? ⟨tb, 4, none⟩ = some (.slice none 0 0) := by simp [World.cell?, htT]
      have f4 : wr.frozen? ⟨tb, 4, none⟩ = false := by simp [World.frozen?, htT]
      have htl5 := (Array.getElem?_eq_some_iff.1 htT).1
      obtain ⟨xa, xc, rfl⟩ := rowV hX5
      have hmk := mk_ints M (by omega)
      clear hX5 htT HX5 HK5 c0
      go_upto_region 16 with fail
      obtain ⟨gh, hgh⟩ : ∃ gh, gh = wr.heap.size := ⟨_, rfl⟩
      obtain ⟨w7, ew7⟩ : ∃ w7, w7 = (wr.setCell ⟨tb, 4, none⟩ (.slice (some ⟨wr.heap.size, 0, none⟩) M M)).alloc (Obj.cells (madeCells #[.int .i64 0] M) 3) := ⟨_, rfl⟩
      have KT : KpS (fun k => k = tb) wr w7 := by rw [ew7]; exact ((KpS.refl (fun k => k = tb) wr).set (a := ⟨tb, 4, none⟩) _ (.inl rfl)).alloc _
      have hssz : (wr.setCell ⟨tb, 4, none⟩ (.slice (some ⟨wr.heap.size, 0, none⟩) M M)).heap.size = wr.heap.size := by simp
      have hg7 : w7.heap[wr.heap.size]? = some (.cells (List.replicate M (Value.int .i64 0)).toArray 3 (0, 0)) := by
        have h9 := cells_ints (wr.setCell ⟨tb, 4, none⟩ (.slice (some ⟨wr.heap.size, 0, none⟩) M M)) M
        rw [hssz] at h9
        rw [ew7]; exact h9
      have hs7 : wr.heap.size < w7.heap.size := (Array.getElem?_eq_some_iff.1 hg7).1
      have ht7 : w7.heap[tb]? = some (lowB (.slice ra i rc) (.slice xa i xc) fb (.slice na M nc) (.slice (some ⟨wr.heap.size, 0, none⟩) M M) i) := by
        rw [ew7]
        exact (Below.heap_alloc _ _ tb (by rw [hssz]; exact htl5)).trans (heap_setCell_same wr tb 4 _ _ _ HT5.out)
      have hR7 : LbR w7 w.heap.size fb i (.slice ra i rc) (.slice na M nc) fv R := HR5.out.kept KT (fun k h1 h2 => by subst h2; exact ⟨_, _, _, HT5.out, by decide, by decide, by decide⟩)
      have hX7 := rowK HXX.out KT (fun g h h2 => row_ne HXX.out HT5.out (by decide) g h h2.symm)
      have hsw := HB5.out.size
      have hH7 := row_cells (w := w7) (base := w.heap.size) (n := M) (xs := List.replicate M (Value.int .i64 0)) hg7 hsw (by simp) (by unfold maxLen; omega)
      have HL7 : Hid (LptAt w7 w.heap.size w7.heap.size tb fb R (fun _ => some 0) i ⟨.slice ra i rc, .slice xa i xc, .slice na M nc, .slice (some ⟨wr.heap.size, 0, none⟩) M M, fv⟩) := by
        refine ⟨ht7, ⟨htbs, by omega, hfb2.1, (Array.getElem?_eq_some_iff.1 hR7.frm.blk).1, Nat.le_refl _⟩, by rw [hRl]; exact hR7.row, by rw [hRl]; exact hX7, by rw [hRl]; exact hR7.frm, by rw [hRl]; exact hR7.nod, ?_, ?_⟩
        · rw [hRl, ← HMM.out, hlF_zero]
          exact hH7
        · rintro v (rfl | rfl | rfl | rfl | rfl) g e
          · exact (hR7.row.lt g e).2
          · exact (hX7.lt g e).2
          · exact (hR7.nod.lt g e).2
          · exact (hH7.lt g e).2
          · exact (hR7.frm.row.lt g e).2
      have HB7 : Hid (Below w.heap.size w w7) := HB5.out.trans (KT.toBelow hsw (fun k h => by omega))
      have HWF := Lib.hid (ysOf_wf HRS.out.1 HRS.out.2)
      rw [← ew7]
      have c3' : w7.cell? ⟨tb, 3, none⟩ = some (.slice na M nc) := by simp [World.cell?, ht7]
      have HMR : Hid (M = (nds R.length).length) := by show _ = _; rw [hRl]; exact HMM.out
      have hRn : R.length ≤ 20000 := by omega
      have HYS : Hid (∀ a, a < R.length → a ∈ ysOf R) := fun a ha => (HWF.out.live a).2 (by rw [List.getElem?_replicate, if_pos ha])
      rw [← hgh] at HL7
      clear ew7 hgh KT hssz hg7 ht7 hR7 hX7 hH7 HR5 HXX HT5 HB5 c3 c4 f4 hmk htl5
      generalize hYY : ysOf R = YS at *
      have HYYE := Lib.hid hYY
      have HRL := Lib.hid hRl
      clear hYY hRl
      go_wp2
      go_loopw [74] (fun iv wr => ∃ j : Nat, iv = .int .i64 j ∧ j ≤ M ∧ Hid (LptAt wr w.heap.size w7.heap.size tb fb R (hUpto (nds R.length) YS j) i ⟨.slice ra i rc, .slice xa i xc, .slice na M nc, .slice (some ⟨gh, 0, none⟩) M M, fv⟩) ∧ Hid (Below w.heap.size w wr)) (fun iv _ => M - (intOf iv).toNat)
      case atStart => exact ⟨0, rfl, Nat.zero_le _, HL7, HB7⟩
      case round =>
        obtain ⟨j, rfl, hj, HMr, HBr⟩ := hrel
        by_cases hjM : j < M
        · have hjM2 : (j : Int) < (M : Int) := by omega
          obtain ⟨t, s, hat, het⟩ := nds_get (show j < (nds R.length).length by rw [← HMR.out]; exact hjM)
          obtain ⟨gn, offn, cn, env, rnd⟩ := HMr.out.nodes (by have := nds_len R.length; rw [← HMR.out] at this; omega)
          simp only at env
          injection env with env ee2 ee3
          clear ee2 ee3
          obtain ⟨gh2, ch2, ehv, hh1, hh2, hh3, -, hhl, hcs, -⟩ := HMr.out.holds (by have := nds_len R.length; rw [← HMR.out] at this; omega)
          simp only at ehv
          injection ehv with ehv ee2 ee3
          injection ehv with ehv
          injection ehv with ehv ee4 ee5
          subst ehv
          clear ee2 ee3
          obtain ⟨-, n0, n1, n2, n3, n4, n5, n6⟩ := nd_all rnd hat.get
          have hbr := HMr.out.blk
          simp only at hbr
          have c4 : wr.cell? ⟨tb, 4, none⟩ = some (.slice (some ⟨gh, 0, none⟩) M M) := by simp [World.cell?, hbr]
          obtain ⟨y0, z0⟩ := hcs j (by rw [← HMR.out]; exact hjM)
          have hTBL := HMr.out.tbl
          rw [het] at n0 n1 n2 n3 n4 n5 n6
          subst env
          obtain ⟨d, hd⟩ : ∃ d, d = t.top s := ⟨_, rfl⟩
          rw [← hd] at n0 n1 n2 n3 n4 n6
          obtain ⟨w8, ew8⟩ : ∃ w8, w8 = wr.alloc (.cells #[.int .u8 d.kind, .int .i64 d.l, .int .i64 d.r, .int .i64 d.fr, .int .i64 d.til, .int .i64 0, .int .i64 d.item] 119) := ⟨_, rfl⟩
          have hb8 : Below wr.heap.size wr w8 := by rw [ew8]; exact (Below.refl _ _).alloc (Nat.le_refl _) _
          have hx8 : w8.heap[wr.heap.size]? = some (.cells #[.int .u8 d.kind, .int .i64 d.l, .int .i64 d.r, .int .i64 d.fr, .int .i64 d.til, .int .i64 0, .int .i64 d.item] 119 (0, 0)) := by rw [ew8]; exact lit0 wr _
          have HB8 := Lib.hid hb8
          have HX8 := Lib.hid hx8
          have EW := Lib.hid ew8
          have HAT := Lib.hid hat
          have HET := Lib.hid het
          have HD := Lib.hid hd
          clear ew8 hb8 hx8 hbr hcs rnd hat het hd
          go_upto_region 19 with fail
          rw [← EW.out]
          clear EW n0 n1 n2 n3 n4 n5 n6
          have hx8 := HX8.out
          have hb8 := HB8.out
          have nbl : wr.heap.size < w8.heap.size := (Array.getElem?_eq_some_iff.1 hx8).1
          have p0 : w8.cell? ⟨wr.heap.size, 0, none⟩ = some (.int .u8 d.kind) := by simp [World.cell?, hx8]
          have p1 : w8.cell? ⟨wr.heap.size, 1, none⟩ = some (.int .i64 d.l) := by simp [World.cell?, hx8]
          have p2 : w8.cell? ⟨wr.heap.size, 2, none⟩ = some (.int .i64 d.r) := by simp [World.cell?, hx8]
          have p3 : w8.cell? ⟨wr.heap.size, 3, none⟩ = some (.int .i64 d.fr) := by simp [World.cell?, hx8]
          have c4' := (hb8.cell (p := ⟨tb, 4, none⟩) hTBL).trans c4
          have y8 := (hb8.cell (p := ⟨gh, j, none⟩) hhl).trans y0
          have z8 : w8.frozen? ⟨gh, j, none⟩ = false := by
            have h9 := z0
            simp only [World.frozen?] at h9 ⊢
            rw [hb8.block gh hhl]
            exact h9
          have k3 := cell_belowW p3
          have k4 := cell_belowW c4'
          clear hx8 hb8 c4 y0 z0
          have hghn : gh ≠ wr.heap.size := by omega
          have hghl8 : gh < w8.heap.size := by omega
          refine wp_region_head (fun W => ∃ p : BelowW w8, W = p.W) [7, 8] [(0, false), (1, false), (2, false), (3, true), (4, false), (5, false), (6, true)] (by kernel_rfl) (by kernel_rfl) (fun _ _ d _ _ h => by cases d <;> exact h) ⟨⟨_, (Below.refl _ _).drew⟩, rfl⟩ 2 rfl (by kernel_rfl) ?_
          simp only [pickB, List.filterMap_cons, List.filterMap_nil, List.getElem?_toArray, List.getElem?_cons_succ, List.getElem?_cons_zero, Option.map_some]
          repeat (refine wpHd_step (fun K hK => ?_); go_simp; first | (refine hK _ ?_; clear hK K) | (apply Exists.intro; refine ⟨fun _ => ?_, hK _ ?_⟩; rfl; clear hK K))
          refine wpHd_nil ?_
          refine wpAnyT_line [7, 8] _ _ _ (by kernel_rfl) ?_
          simp only [pick, List.filterMap_cons, List.filterMap_nil, List.getElem?_toArray, List.getElem?_cons_succ, List.getElem?_cons_zero]
          have y8' : w8.drew.cell? ⟨gh, j, none⟩ = _ := y8
          have z8' : w8.drew.frozen? ⟨gh, j, none⟩ = false := z8
          obtain ⟨w9, ew9⟩ : ∃ w9, w9 = (w8.setCell ⟨gh, j, none⟩ (.int .i64 d.fr)).drew := ⟨_, rfl⟩
          have K9 : KpS (fun k => k = gh) w8 w9 := by rw [ew9]; exact ((KpS.refl (fun k => k = gh) w8).set (a := ⟨gh, j, none⟩) _ (.inl rfl)).drew
          obtain ⟨hwt, hht⟩ := at_wf HAT.out
          obtain ⟨f0, hf0, hf1⟩ : ∃ f0 : Nat, d.fr = (f0 : Int) ∧ f0 = t.lo := by rw [HD.out]; cases t <;> exact ⟨_, rfl, rfl⟩
          have HST : Hid (LptAt w9 w.heap.size w7.heap.size tb fb R (updH (hUpto (nds R.length) YS j) j (some f0)) i ⟨.slice ra i rc, .slice xa i xc, .slice (some ⟨gn, offn, none⟩) M nc, .slice (some ⟨gh, 0, none⟩) M M, fv⟩) := by
            rw [ew9, hf0]
            exact ((HMr.out.below HB8.out HMr.out.tbr.2.2.2.2).setHold rfl (by rw [← HMR.out]; exact hjM) (some f0)).below (Below.refl _ _).drew (by have := HMr.out.tbr.2.2.2.2; have := HB8.out.size; simp; omega)
          have HB9 : Hid (Below w.heap.size w w9) := (HBr.out.trans (HB8.out.mono HBr.out.size)).trans (K9.toBelow (by have := HBr.out.size; omega) (fun k h => by omega))
          have q0 := ((cellK K9 nbl (fun h => hghn h.symm)).1 0).trans p0
          have q1 := ((cellK K9 nbl (fun h => hghn h.symm)).1 1).trans p1
          have q2 := ((cellK K9 nbl (fun h => hghn h.symm)).1 2).trans p2
          have hs9 := K9.size
          have EW9 := Lib.hid ew9
          clear ew9 k3 k4 K9 p0 p1 p2 p3 hf0
          go_upto_region 20 with fail
          rw [← EW9.out]
          clear EW9 y8' z8' y8 z8 c4'
          cases t with
          | leaf a9 =>
            have hk : (d.kind == (2 : Int)) = false := by rw [HD.out]; rfl
            have HS2 : Hid (LptAt w9 w.heap.size w7.heap.size tb fb R (hUpto (nds R.length) YS (j + 1)) i ⟨.slice ra i rc, .slice xa i xc, .slice (some ⟨gn, offn, none⟩) M nc, .slice (some ⟨gh, 0, none⟩) M M, fv⟩) := by
              refine HST.out.congr fun k hk => ?_
              unfold hUpto
              by_cases e : k = j
              · subst e
                have h1 := bst_leaf HWF.out HAT.out
                rw [if_pos (HYS.out a9 (by have : (FT.leaf a9).hi = a9 + 1 := rfl; omega))] at h1
                have h2 : s = k := by have := HET.out; unfold FT.root at this; simpa [FT.size] using this
                rw [updH_same, if_pos (by omega), ← h2, h1, hf1]
                rfl
              · rw [updH_ne e]
                by_cases h9 : k < j
                · rw [if_pos h9, if_pos (by omega)]
                · rw [if_neg h9, if_neg (by omega)]
            go_wp2
            go_roundw
            case rel => first | exact ⟨j + 1, by go_num, by omega, HS2, HB9⟩ | (refine ⟨_, ?_, rfl⟩; exact ⟨j + 1, by go_num, by omega, HS2, HB9⟩) | (refine ⟨_, _, ?_, rfl, rfl⟩; exact ⟨j + 1, by go_num, by omega, HS2, HB9⟩) | (refine ⟨_, _, _, ?_, rfl, rfl, rfl⟩; exact ⟨j + 1, by go_num, by omega, HS2, HB9⟩) | (refine ⟨_, _, _, _, ?_, rfl, rfl, rfl, rfl⟩; exact ⟨j + 1, by go_num, by omega, HS2, HB9⟩) | (refine ⟨_, _, _, _, _, ?_, rfl, rfl, rfl, rfl, rfl⟩; exact ⟨j + 1, by go_num, by omega, HS2, HB9⟩)
            case measure => simp [intOf]; omega
          | node l9 r9 =>
            have hk : (d.kind == (2 : Int)) = true := by rw [HD.out]; rfl
            have hll := HAT.out.left.lt
            have hrl := HAT.out.right.lt
            have hlr : l9.root s < j ∧ r9.root (s + l9.size) < j := by
              rw [← HET.out]
              have := l9.size_pos
              have := r9.size_pos
              have hsz : (FT.node l9 r9).size = l9.size + r9.size + 1 := rfl
              unfold FT.root
              omega
            have hdl : d.l = ((l9.root s : Nat) : Int) := by rw [HD.out]; show ((s + l9.size : Nat) : Int) - 1 = _; unfold FT.root; have := l9.size_pos; omega
            have hdr : d.r = ((r9.root (s + l9.size) : Nat) : Int) := by rw [HD.out]; show ((s + l9.size + r9.size : Nat) : Int) - 1 = _; unfold FT.root; have := r9.size_pos; omega
            rw [hdl] at q1
            rw [hdr] at q2
            obtain ⟨gh3, ch3, ehv3, -, -, -, -, hl3, hcs3, -⟩ := HST.out.holds (by have := nds_len R.length; rw [← HMR.out] at this; omega)
            simp only at ehv3
            injection ehv3 with ehv3 ee2 ee3
            injection ehv3 with ehv3
            injection ehv3 with ehv3 ee4 ee5
            subst ehv3
            clear ee2 ee3
            obtain ⟨y1, -⟩ := hcs3 _ hll
            obtain ⟨y2, -⟩ := hcs3 _ hrl
            obtain ⟨yj, zj⟩ := hcs3 j (by rw [← HMR.out]; exact hjM)
            rw [show updH (hUpto (nds R.length) YS j) j (some f0) (l9.root s) = bst (nds R.length) YS (l9.root s) by rw [updH_ne (by omega)]; exact if_pos hlr.1] at y1
            rw [show updH (hUpto (nds R.length) YS j) j (some f0) (r9.root (s + l9.size)) = bst (nds R.length) YS (r9.root (s + l9.size)) by rw [updH_ne (by omega)]; exact if_pos hlr.2] at y2
            rw [updH_same] at yj
            have hb9 := HST.out.blk
            simp only at hb9
            have c4 : w9.cell? ⟨tb, 4, none⟩ = some (.slice (some ⟨gh, 0, none⟩) M M) := by simp [World.cell?, hb9]
            have CL := Lib.hid (low_lower (HST.out.lowR.below (Below.refl _ _).drew) hRn (bst (nds R.length) YS (l9.root s)) (bst (nds R.length) YS (r9.root (s + l9.size))) (fun i h => bst_lt HWF.out h) (fun i h => bst_lt HWF.out h))
            have HBN : Hid (bst (nds R.length) YS j = lowO R (bst (nds R.length) YS (l9.root s)) (bst (nds R.length) YS (r9.root (s + l9.size)))) := by
              show _ = _
              rw [← bst_node HWF.out HAT.out hwt, HET.out]
            rw [← HMR.out] at hll hrl
            have htl9 := HST.out.tbl
            clear hb9 hcs3 hdl hdr
            generalize lowO R (bst (nds R.length) YS (l9.root s)) (bst (nds R.length) YS (r9.root (s + l9.size))) = nx at *
            generalize bst (nds R.length) YS (l9.root s) = bl at *
            generalize bst (nds R.length) YS (r9.root (s + l9.size)) = br at *
            generalize l9.root s = kl at *
            generalize r9.root (s + l9.size) = kr at *
            have k1 := cell_belowW q1
            have k2 := cell_belowW q2
            have k3 := cell_belowW c4
            have k4 := cell_belowW y1
            have k5 := cell_belowW y2
            go_upto_region 21 with fail
            refine wp_region_head (fun W => ∃ p : BelowW w9, W = p.W) [23, 24] [(0, false), (1, false), (2, false), (3, true), (4, false), (5, false), (6, false), (7, false), (8, false), (9, true), (10, false), (11, true), (12, false), (13, true), (14, false), (15, false), (16, false), (17, true), (18, false), (19, true), (20, false), (21, true)] (by kernel_rfl) (by kernel_rfl) (fun _ _ d _ _ h => by cases d <;> exact h) ⟨⟨_, (Below.refl _ _).drew⟩, rfl⟩ 3 rfl (by kernel_rfl) ?_
            simp only [pickB, List.filterMap_cons, List.filterMap_nil, List.getElem?_toArray, List.getElem?_cons_succ, List.getElem?_cons_zero, Option.map_some]
            repeat (refine wpHd_step (fun K hK => ?_); go_simp; first | (refine hK _ ?_; clear hK K) | (apply Exists.intro; refine ⟨fun _ => ?_, hK _ ?_⟩; rfl; clear hK K))
            refine wpHd_nil ?_
            refine wpAnyT_ready [22] (by kernel_rfl) (by simp) ?_
            refine AllReadyT.cons rfl (fun K hK => ?_) AllReadyT.nil
            refine step_call ent_llower rfl _ _ rfl (vals := #[.pointer (some ⟨tb, 0, none⟩), .int .i64 (eHo bl), .int .i64 (eHo br)]) rfl CL.out ?_
            rintro e w10 ⟨rfl, hb10⟩
            have hb910 : Below w9.heap.size w9 w10 := ((Below.refl w9.heap.size w9).drew).trans hb10
            refine ⟨_, rfl, hK _ _ (fun _ _ => ⟨⟨_, hb910⟩, rfl⟩) ?_⟩
            clear hK K
            refine wpAnyT_line [23, 24] _ _ _ (by kernel_rfl) ?_
            simp only [pick, List.filterMap_cons, List.filterMap_nil, List.getElem?_toArray, List.getElem?_cons_succ, List.getElem?_cons_zero]
            have y10 := (hb910.cell (p := ⟨gh, j, none⟩) hl3).trans yj
            have z10 : w10.frozen? ⟨gh, j, none⟩ = false := by
              have h9 := zj
              simp only [World.frozen?] at h9 ⊢
              rw [hb910.block gh hl3]
              exact h9
            have HFIN : Hid (∀ wz, wz = w10.setCell ⟨gh, j, none⟩ (.int .i64 (eHo nx)) → Hid (LptAt wz w.heap.size w7.heap.size tb fb R (hUpto (nds R.length) YS (j + 1)) i ⟨.slice ra i rc, .slice xa i xc, .slice (some ⟨gn, offn, none⟩) M nc, .slice (some ⟨gh, 0, none⟩) M M, fv⟩) ∧ Hid (Below w.heap.size w wz)) := fun wz ez => by
              subst ez
              refine ⟨((HST.out.below hb910 HST.out.tbr.2.2.2.2).setHold rfl (by rw [← HMR.out]; exact hjM) nx).congr fun k _ => ?_, ?_⟩
              · unfold hUpto
                by_cases e : k = j
                · subst e
                  rw [updH_same, if_pos (by omega), HBN.out]
                · rw [updH_ne e, updH_ne e]
                  by_cases h9 : k < j
                  · rw [if_pos h9, if_pos (by omega)]
                  · rw [if_neg h9, if_neg (by omega)]
              · exact (HB9.out.trans (hb910.mono HB9.out.size)).trans (((KpS.refl (fun k => k = gh) w10).set (a := ⟨gh, j, none⟩) _ (.inl rfl)).toBelow (Nat.le_trans HB9.out.size hb910.size) (fun k h => by omega))
            clear hb910 hb10 yj zj y1 y2 c4 q0 q1 q2 k1 k2 k3 k4 k5 CL
            go_wp2
            go_roundw
            case rel => first | exact ⟨j + 1, by go_num, by omega, (HFIN.out _ rfl).1, (HFIN.out _ rfl).2⟩ | (refine ⟨_, ?_, rfl⟩; exact ⟨j + 1, by go_num, by omega, (HFIN.out _ rfl).1, (HFIN.out _ rfl).2⟩) | (refine ⟨_, _, ?_, rfl, rfl⟩; exact ⟨j + 1, by go_num, by omega, (HFIN.out _ rfl).1, (HFIN.out _ rfl).2⟩) | (refine ⟨_, _, _, ?_, rfl, rfl, rfl⟩; exact ⟨j + 1, by go_num, by omega, (HFIN.out _ rfl).1, (HFIN.out _ rfl).2⟩) | (refine ⟨_, _, _, _, ?_, rfl, rfl, rfl, rfl⟩; exact ⟨j + 1, by go_num, by omega, (HFIN.out _ rfl).1, (HFIN.out _ rfl).2⟩) | (refine ⟨_, _, _, _, _, ?_, rfl, rfl, rfl, rfl, rfl⟩; exact ⟨j + 1, by go_num, by omega, (HFIN.out _ rfl).1, (HFIN.out _ rfl).2⟩)
            case measure => simp [intOf]; omega
        · obtain rfl : j = M := by omega
          have hfin : LptAt wr w.heap.size wr.heap.size tb fb R (bst (nds R.length) YS) i ⟨.slice ra i rc, .slice xa i xc, .slice na j nc, .slice (some ⟨gh, 0, none⟩) j j, fv⟩ :=
            (HMr.out.congr fun k hk => by unfold hUpto; rw [if_pos (by rw [HMR.out]; exact hk)]).grow HMr.out.tbr.2.2.2.2 (Nat.le_refl _)
          have HFIN : Hid (BuildPL w R (.returned (.tuple #[.pointer (some ⟨tb, 0, none⟩), .int .i64 0])) wr) := by
            refine ⟨tb, fb, ⟨.slice ra i rc, .slice xa i xc, .slice na j nc, .slice (some ⟨gh, 0, none⟩) j j, fv⟩, rfl, ?_, HBr.out⟩
            rw [HYYE.out, HRL.out]
            rw [HRL.out] at hfin
            exact hfin
          clear hfin
          go_wp2
          go_ret2
          exact HFIN.out
end Go.Proofs.YtggfdlanobndjaaGreat
