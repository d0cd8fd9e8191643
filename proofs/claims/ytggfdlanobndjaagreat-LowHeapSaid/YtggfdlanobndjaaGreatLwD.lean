/- low: Lowest. -/
import Derived.Test.YtggfdlanobndjaaGreatLwC
import Derived.Test.YtggfdlanobndjaaGreatQ6
import Derived.Laws.Tables
import Derived.Laws.Rows
import Derived.Laws.CopyOwn
import Derived.Great.BuildSlice
namespace Go.Proofs.YtggfdlanobndjaaGreat
open Go.RowKit Go.Sort Go.Shelf Go.Lib Go.Maps
attribute [local irreducible] wpQuiet
attribute [local go_sem] Oper.still1
set_option linter.unusedSimpArgs false
set_option linter.unusedVariables false

theorem canL_lt {R : List Pt} {x1 x2 : Int} : ∀ k ∈ (canL R x1 x2).1, k < (nds R.length).length := fun k hk => by
  unfold canL at hk
  by_cases h0 : R.length = 0 ∨ x2 < x1
  · rw [if_pos h0] at hk; exact absurd hk List.not_mem_nil
  · rw [if_neg h0] at hk
    by_cases h1 : hfr R x1 < hto R x2
    · rw [if_pos h1] at hk
      exact FT.canon_lt _ 0 (nds_at R.length (by omega)) k hk
    · rw [if_neg h1] at hk; exact absurd hk List.not_mem_nil
theorem canL_size {R : List Pt} (hR : R.length ≤ 20000) (x1 x2 : Int) : (canL R x1 x2).1.length ≤ 40000 ∧ (canL R x1 x2).2 ≤ 100000 := by
  unfold canL
  by_cases h0 : R.length = 0 ∨ x2 < x1
  · rw [if_pos h0]; simp
  · rw [if_neg h0]
    have l1 := bsrch_lk (fun i => decide (x1 ≤ (xsR R).getD i 0)) (xsR R).length
    have l2 := bsrch_lk (fun i => decide (x2 < (xsR R).getD i 0)) (xsR R).length
    have lx : (xsR R).length = R.length := by unfold xsR; rw [List.length_map]
    have l1' : (rkFirst (xsR R) x1).2 ≤ 20000 := by unfold rkFirst; omega
    have l2' : (rkAbove (xsR R) x2).2 ≤ 20000 := by unfold rkAbove; omega
    have hTs := mkT_size 0 R.length (by omega)
    have hcs := FT.canon_size (hfr R x1) (hto R x2) (mkT 0 R.length) 0
    by_cases h1 : hfr R x1 < hto R x2
    · rw [if_pos h1]; exact ⟨Nat.le_trans hcs.2 (by omega), by have := hcs.1; simp only; omega⟩
    · rw [if_neg h1]; exact ⟨by simp, by show _ + _ ≤ _; omega⟩
theorem lowF_lt {R : List Pt} {gone : List Bool} {YS : List Nat} {N : List Nd} (hW : CscWF R gone YS) (ks : List Nat) : ∀ i, lowF R N YS ks = some i → i < R.length := by
  intro i h
  have h1 := lowF_min (N := N) hW ks none (fun _ => False) (fun _ h => h.elim) (fun _ h => h)
  unfold lowF at h
  rw [h] at h1
  rcases h1.1 with h2 | h2
  · exact h2.elim
  · obtain ⟨k, -, hk⟩ := List.mem_flatMap.1 h2
    exact lk_lt hW hk

/-- three results, the first a struct in a cell -/
theorem results_cell3 {P : Program} {fn : Func} {p q r : Tmp} {ty : TypeId} (h : fn.results = #[.cell p ty, .tmp q, .tmp r]) (tmps : Array Value) (w : World) (g : Nat) (t : TypeId) (cs : Array Value) (fr : Nat × Nat) (d : TypeDesc) (v2 v3 : Value)
    (hp : tmps.getD p undef = .pointer (some ⟨g, 0, none⟩)) (h2 : tmps.getD q undef = v2) (h3 : tmps.getD r undef = v3) (hg : w.heap[g]? = some (.cells cs t fr))
    (hu : P.underlying ty = some d) (hd : (match d with | .struct _ | .array _ _ => true | _ => false) = true) (hi : (P.info? ty).map (·.size) = some cs.size) :
    (results fn tmps).run P w = .ok (.tuple #[.agg cs, v2, v3]) w := by
  have hp' : tmps[p]?.getD undef = .pointer (some ⟨g, 0, none⟩) := by simpa using hp
  have h2' : tmps[q]?.getD undef = v2 := by simpa using h2
  have h3' : tmps[r]?.getD undef = v3 := by simpa using h3
  simp [results, h, hp', h2', h3', asAddr, run_loadVar_row w g t ty cs fr d hg hu hd hi]

set_option maxRecDepth 100000 in
set_option maxHeartbeats 4000000 in
theorem low_lowest {w : World} {lo hi tb fb : Nat} {cnt : Int} {R : List Pt} {gone : List Bool} {YS : List Nat} {V : HepV} (hA : LptAt w lo hi tb fb R (bst (nds R.length) YS) cnt V) (hW : CscWF R gone YS) (hR : R.length ≤ 20000) (x1 x2 : Int) :
    Calls Tryz.prog 34 #[.pointer (some ⟨tb, 0, none⟩), .int .i64 x1, .int .i64 x2] w fun e w' => (∃ p : Pt, p = ((lowF R (nds R.length) YS (canL R x1 x2).1).map (ptAt R)).getD (0, 0, 0) ∧ e = .returned (.tuple #[vPt p.1 p.2.1 p.2.2, .bool (lowF R (nds R.length) YS (canL R x1 x2).1).isSome, .int .i64 ((canL R x1 x2).2 : Nat)])) ∧ Below w.heap.size w w' := by
  obtain ⟨hsz1, hsz2⟩ := canL_size hR x1 x2
  have HLT := Lib.hid (canL_lt (R := R) (x1 := x1) (x2 := x2))
  have CC := Lib.hid (fun W (hb : Below w.heap.size w W) => low_canon (hA.below hb hA.tbr.2.2.2.2) hR x1 x2)
  obtain ⟨ask, hask⟩ : ∃ ask, ask = canL R x1 x2 := ⟨_, rfl⟩
  rw [← hask] at CC HLT hsz1 hsz2 ⊢
  clear hask
  obtain ⟨ks, tch⟩ := ask
  simp only at hsz1 hsz2 HLT ⊢
  have HA := Lib.hid hA
  have HW := Lib.hid hW
  have htl := hA.tbl
  obtain ⟨w1, ew1⟩ : ∃ w1, w1 = w.alloc (.cells #[.int .i64 0, .int .i64 0, .int .u32 0] 34) := ⟨_, rfl⟩
  have hb1 : Below w.heap.size w w1 := by rw [ew1]; exact (Below.refl _ _).alloc (Nat.le_refl _) _
  have hx1 : w1.heap[w.heap.size]? = some (obP (0, 0, 0)) := by rw [ew1]; exact lit0 w _
  have HB1 := Lib.hid hb1
  have HX1 := Lib.hid hx1
  have EW := Lib.hid ew1
  clear ew1 hb1 hx1 hA hW
  go_enter Tryz.func34, Tryz.ntmps34
  go_upto_region 1 with fail
  rw [← EW.out]
  clear EW
  go_wp2_with fail
  refine (CC.out w1 HB1.out).mono ?_
  rintro e w2 ⟨v, rfl, hown, hb2⟩
  have HB2 := Lib.hid (HB1.out.trans (hb2.mono HB1.out.size))
  have hrl : w.heap.size < w1.heap.size := (Array.getElem?_eq_some_iff.1 HX1.out).1
  have HX2 := Lib.hid ((hb2.block w.heap.size hrl).trans HX1.out)
  have hrl2 : w.heap.size < w2.heap.size := (Array.getElem?_eq_some_iff.1 HX2.out).1
  obtain ⟨ka, kc, rfl, -, -, hkr⟩ := Rd.of_owns (enc := eNat) hown
  have HKR := Lib.hid hkr
  clear hown hkr hb2 CC HB1 HX1
  go_wp2
  go_loopw [11, 23] (fun bv jv wr => ∃ j : Nat, jv = .int .i64 j ∧ j ≤ ks.length ∧ bv = .int .i64 (eHo (lowF R (nds R.length) YS (ks.take j))) ∧ Hid (Below w2.heap.size w2 wr)) (fun _ jv _ => ks.length - (intOf jv).toNat)
  case atStart => exact ⟨0, rfl, Nat.zero_le _, rfl, Lib.hid (Below.refl _ _)⟩
  case round =>
    obtain ⟨j, rfl, hj, rfl, HBK⟩ := hrel
    by_cases hjl : j < ks.length
    · have hjl2 : (j : Int) < (ks.length : Int) := by omega
      have hkn := HLT.out ks[j] (List.getElem_mem hjl)
      have h0 : 0 < R.length := by have := nds_len R.length; omega
      have HBR := Lib.hid (HB2.out.trans (HBK.out.mono (by have := HB2.out.size; omega)))
      have hAr := HA.out.below HBR.out (by have := HA.out.tbr; omega)
      obtain ⟨gh, ch, ehv, -, -, -, -, hghl, hcs, -⟩ := hAr.holds h0
      have hb' := hAr.blk
      rw [ehv] at hb'
      have c4 : wr.cell? ⟨tb, 4, none⟩ = some (.slice (some ⟨gh, 0, none⟩) (nds R.length).length ch) := by simp [World.cell?, hb']
      have e1 := (hcs ks[j] hkn).1
      have CL := Lib.hid (low_lower hAr.lowR hR (lowF R (nds R.length) YS (ks.take j)) (bst (nds R.length) YS ks[j]) (lowF_lt HW.out _) (fun i h => bst_lt HW.out h))
      have HS : Hid (lowF R (nds R.length) YS (ks.take (j + 1)) = lowO R (lowF R (nds R.length) YS (ks.take j)) (bst (nds R.length) YS ks[j])) := by
        show _ = _
        rw [List.take_succ_eq_append_getElem hjl, lowF_snoc]
      obtain ⟨b, off, ea, hbl, hcs2⟩ := (HKR.out.below HBK.out).get (by omega)
      have x0 := hcs2 j hjl
      simp only [eNat] at x0
      have EA := Lib.hid ea
      have hkM : (nds R.length).length ≤ 40000 := by rw [nds_len]; omega
      obtain ⟨M, hMM⟩ : ∃ M, M = (nds R.length).length := ⟨_, rfl⟩
      rw [← hMM] at c4 hkn hkM
      clear hcs hcs2 hb' ehv hAr ea hMM
      generalize lowO R (lowF R (nds R.length) YS (ks.take j)) (bst (nds R.length) YS ks[j]) = nx at *
      generalize bst (nds R.length) YS ks[j] = bk at *
      generalize lowF R (nds R.length) YS (ks.take j) = cur at *
      generalize ks[j] = k at *
      obtain rfl := EA.out
      clear EA
      go_wp2_with fail
      refine CL.out.mono ?_
      rintro e w3 ⟨rfl, hb3⟩
      have HB3 := Lib.hid (HBK.out.trans (hb3.mono HBK.out.size))
      clear hb3 CL
      go_wp2
      go_roundw
      case rel => exact ⟨j + 1, by go_num, by omega, by rw [HS.out], HB3⟩
      case measure => simp [intOf]; omega
    · obtain rfl : j = ks.length := by omega
      rw [List.take_length] at *
      have hol := lowF_lt (N := nds R.length) HW.out ks
      generalize ho : lowF R (nds R.length) YS ks = o at *
      have HO := Lib.hid ho
      clear ho
      have HB3 := Lib.hid (HB2.out.trans (HBK.out.mono (by have := HB2.out.size; omega)))
      have HX3 := Lib.hid ((HBK.out.block w.heap.size hrl2).trans HX2.out)
      obtain ⟨w3, ew3⟩ : ∃ w3 : World, w3 = wr := ⟨_, rfl⟩
      subst ew3
      cases o with
      | none =>
        simp only [eHo, Option.map_none, Option.getD_none, Option.isSome_none]
        have F1 := setRow_heap w3 w.heap.size _ #[.int .i64 0, .int .i64 0, .int .u32 0] _ _ HX3.out
        have FB := below_setRow HB3.out (Nat.le_refl w.heap.size) #[.int .i64 0, .int .i64 0, .int .u32 0]
        have HF1 := Lib.hid F1
        have HFB := Lib.hid FB
        clear F1 FB
        go_wp2_with (refine wpList_store_rowTo rfl 34 (.tmp 6) (.tmp 40) rfl rfl w.heap.size #[.int .i64 0, .int .i64 0, .int .u32 0] rfl rfl _ _ HX3.out (by kernel_rfl) rfl (by simp [Value.oneCell']) ?_)
        refine bodyPost_ret (results_cell3 rfl _ _ w.heap.size _ _ _ _ (.bool false) (.int .i64 (tch : Nat)) rfl rfl rfl HF1.out Tryz.underlying34 rfl (by kernel_rfl)) rfl ?_
        exact ⟨⟨(0, 0, 0), by first | rfl | (rw [HO.out]; rfl), by first | rfl | (rw [HO.out]; rfl)⟩, HFB.out⟩
      | some i =>
        have hi' := hol i rfl
        have e1 : ((i : Int) == -1) = false := by first | (simp; done) | (simp; omega)
        have e2 : decide ((i : Int) = -1) = false := by first | (simp; done) | (simp; omega)
        obtain ⟨hl3, ra, rc, q0, rrow⟩ := (HA.out.below HB3.out (by have := HA.out.tbr; omega)).lowR
        obtain ⟨rb2, ro, era, hrb2, hrc⟩ := rrow.get (by omega)
        have r0 := hrc i hi' 0 (by omega)
        have r1 := hrc i hi' 1 (by omega)
        have r2 := hrc i hi' 2 (by omega)
        simp only [ePt, List.getElem?_cons_zero, List.getElem?_cons_succ, Nat.add_zero] at r0 r1 r2
        rw [← ptAt_eq hi'] at r0 r1 r2
        subst era
        simp only [eHo, Option.map_some, Option.getD_some, Option.isSome_some]
        have HP : Hid (∃ p, p = ptAt R i) := ⟨_, rfl⟩
        obtain ⟨p, hp⟩ := HP.out
        have HPE := Lib.hid hp
        rw [← hp] at r0 r1 r2
        clear hp HP
        obtain ⟨p1, p2, p3⟩ := p
        simp only at r0 r1 r2
        clear hrc rrow hol
        have HF1 := Lib.hid (setRow_heap w3 w.heap.size _ #[.int .i64 p1, .int .i64 p2, .int .u32 p3] _ _ HX3.out)
        have HFB := Lib.hid (below_setRow HB3.out (Nat.le_refl w.heap.size) #[.int .i64 p1, .int .i64 p2, .int .u32 p3])
        go_wp2_with (refine wpList_store_rowTo rfl 34 (.tmp 6) (.tmp 48) rfl rfl w.heap.size #[.int .i64 p1, .int .i64 p2, .int .u32 p3] rfl rfl _ _ HX3.out (by kernel_rfl) rfl (by simp [Value.oneCell']) ?_)
        refine bodyPost_ret (results_cell3 rfl _ _ w.heap.size _ _ _ _ (.bool true) (.int .i64 (tch : Nat)) rfl rfl rfl HF1.out Tryz.underlying34 rfl (by kernel_rfl)) rfl ?_
        exact ⟨⟨(p1, p2, p3), by first | exact HPE.out | (rw [HO.out]; exact HPE.out), by first | rfl | (rw [HO.out]; rfl)⟩, HFB.out⟩
end Go.Proofs.YtggfdlanobndjaaGreat
