/- heap.unlike, heap.Build. -/
import Derived.Test.YtggfdlanobndjaaGreatHpF
import Derived.Test.YtggfdlanobndjaaGreatHpS
import Derived.Test.YtggfdlanobndjaaGreatQ5
import Derived.Deep.CutBlock
import Derived.Deep.CutRange
import Derived.Deep.LoopGhost
import Derived.Maps.OwnOps
namespace Go.Proofs.YtggfdlanobndjaaGreat
open Go.RowKit Go.Sort Go.Shelf Go.Lib Go.Maps
attribute [local irreducible] wpQuiet
attribute [local go_sem] Oper.still1
set_option linter.unusedSimpArgs false
set_option linter.unusedVariables false

set_option maxRecDepth 100000 in
set_option maxHeartbeats 2000000 in
theorem heap_unlike (a : Option Addr) (c : Nat) (l : List Pt) (w : World) (hl : RdK ePt 3 w a l) (hn : l.length ≤ 1000000) (hw : wfN l) :
    Calls Tryz.prog 40 #[.slice a l.length c] w fun e w' => e = .returned (.bool (unl l)) ∧ Below w.heap.size w w' := by
  have HR := Lib.hid hl
  have HW := Lib.hid hw
  clear hl hw
  have hmm := @run_makeMap Tryz.prog
  go_enter Tryz.func40, Tryz.ntmps40
  go_wp2
  go_loopw [9] (fun iv wr => ∃ i : Nat, iv = .int .i64 i ∧ i ≤ l.length ∧ Below w.heap.size w wr ∧ Hid (∃ (D : DataW Unit), wr.ownsMap Tryz.prog 32 (plainElem Tryz.prog 3) w.heap.size i D ∧ PlcAt D l i)) (fun iv _ => l.length - (intOf iv).toNat)
  case atStart => exact ⟨0, rfl, Nat.zero_le _, (Below.refl _ _).alloc (Nat.le_refl _) _, ⟨.map [], World.ownsMap_made _ _ _ _, [], IsM.empty _ _⟩⟩
  case round =>
    obtain ⟨i, rfl, hi, hb, HO⟩ := hrel
    by_cases hil : i < l.length
    · obtain ⟨b, off, ea, hbl, hcs⟩ := (HR.out.below hb).get (by omega)
      have x0 := hcs i hil 0 (by omega)
      have x1 := hcs i hil 1 (by omega)
      have x2 := hcs i hil 2 (by omega)
      simp only [ePt, List.getElem?_cons_zero, List.getElem?_cons_succ, Nat.add_zero] at x0 x1 x2
      have hkey : Hid (keyOf Tryz.prog 32 (.int .u32 l[i].2.2) = some (.int .u32 l[i].2.2)) := keyOf_int_mk Tryz.underlying32 (HW.out _ (List.getElem_mem _))
      obtain ⟨D, hown0, hD⟩ := HO.out
      have HD2 := Lib.hid (hD.put hil)
      have hS2 := hb.size
      have EA := Lib.hid ea
      clear HO hcs hD ea
      generalize l[i] = p at *
      obtain ⟨px, py, pi⟩ := p
      obtain rfl := EA.out
      clear EA
      have hown := hown0.kept (World.grownBy_alloc wr (.cells #[.int .i64 px, .int .i64 py, .int .u32 pi] 34) none) (by simp)
      go_wp2_with (at_mapUpdate; refine wpList_mapUpdate_own _ rfl _ _ _ 69 rfl 32 3 (int_keyed Tryz.underlying32) Tryz.underlying69 _ w.heap.size i _ rfl hown (by unfold maxLen; omega) _ _ _ rfl rfl hkey.out _ [] (plainElem_int Tryz.underlying3 (by simp [Lit.wf, IntKind.min, IntKind.max, IntKind.bits, IntKind.signed]; omega)) ?_; intro w3 hown3 hgrow3)
      have B3 : Below w.heap.size wr w3 := (((Below.refl _ wr).alloc (by omega) _)).grown hgrow3 (by simp; omega) (fun j ej => by cases ej; omega)
      have HO3 : Hid (∃ (D : DataW Unit), w3.ownsMap Tryz.prog 32 (plainElem Tryz.prog 3) w.heap.size (i + 1) D ∧ PlcAt D l (i + 1)) := ⟨_, hown3, HD2.out⟩
      have B4 := hb.trans B3
      clear hown3 hgrow3 hown hown0 HD2
      go_wp2
      go_roundw
      case rel => exact ⟨i + 1, by go_num, by omega, B4, HO3⟩
      case measure => simp [intOf]; omega
    · obtain rfl : i = l.length := by omega
      obtain ⟨D, hown, hD⟩ := HO.out
      have hsize := hD.size
      have HS := Lib.hid hsize
      clear hsize hD HO
      go_wp2_with (at_len; refine wpList_len_own _ rfl _ 69 rfl 32 3 Tryz.underlying69 _ w.heap.size _ _ rfl hown ?_)
      go_ret
      exact ⟨by rw [HS.out]; rfl, hb⟩

set_option maxRecDepth 100000 in
set_option maxHeartbeats 4000000 in
theorem heap_build_bad (a : Option Addr) (c : Nat) (l : List Pt) (w : World) (hl : RdK ePt 3 w a l) (hn : l.length ≤ 40000) (hw : wfN l) (hu : unl l = false) :
    Calls Tryz.prog 16 #[.slice a l.length c] w fun e w' => e = .returned (.tuple #[.pointer none, .int .i64 2]) ∧ Below w.heap.size w w' := by
  have CU := heap_unlike a c l w hl (by omega) hw
  rw [hu] at CU
  obtain ⟨n, hnn⟩ : ∃ n, n = l.length := ⟨_, rfl⟩
  rw [← hnn] at hn CU ⊢
  clear hnn hl
  have d1 : decide ((n : Int) > 2147483648) = false := by simp; omega
  have d2 : decide ((2147483648 : Int) < (n : Int)) = false := by simp; omega
  have d3 : decide (2147483648 < n) = false := by simp; omega
  go_enter Tryz.func16, Tryz.ntmps16
  go_wp2_with (go_at_call 40; refine CU.mono ?_; rintro e w1 ⟨rfl, hb⟩)
  go_ret2
  exact ⟨rfl, hb⟩


/-- more room -/
theorem HptAt.grow {w : World} {lo hi hi' tb fb : Nat} {R : List Pt} {h : Hld} {cnt : Int} {V : HepV} (H : HptAt w lo hi tb fb R h cnt V) (h1 : hi ≤ hi') (h2 : hi' ≤ w.heap.size) : HptAt w lo hi' tb fb R h cnt V :=
  ⟨H.blk, ⟨H.tbr.1, by have := H.tbr.2.1; omega, H.tbr.2.2.1, by have := H.tbr.2.2.2.1; omega, h2⟩, H.row, H.xs, H.frm, H.nod, H.hld, fun v hv g e => Nat.lt_of_lt_of_le (H.top v hv g e) h1⟩
theorem hlF_none (n : Nat) : hlF (fun _ => none) n = List.replicate n (.int .i64 (-1)) := by
  apply List.ext_getElem (by simp [hlF])
  intro i h1 h2
  simp [hlF, eHo]

/-- places in order, whatever the slice -/
theorem sortPlcV {w : World} {base n tb tc : Nat} {av : Value} {ra : Option Addr} {rc : Nat} {R : List Pt} (hu : (ids R).Nodup) (hx : R.Pairwise ltX) (hn : R.length = n) (hn2 : n ≤ 1000000) (hrow : w.ownsRow base 3 1 av n ((List.range n).map eNat))
    (htc : w.cell? ⟨tc, 0, none⟩ = some (.pointer (some ⟨tb, 0, none⟩))) (c0 : w.cell? ⟨tb, 0, none⟩ = some (.slice ra n rc)) (hr : RdK ePt 3 w ra R) (h1 : ∀ g, av.ownBlock = some g → tc ≠ g ∧ tb ≠ g ∧ ∀ ad, ra = some ad → ad.block ≠ g) :
    Calls Tryz.prog 46 #[av, .func (.func 47) #[] #[.pointer (some ⟨tc, 0, none⟩)]] w fun e w' =>
      e = .returned (.tuple #[]) ∧ w'.ownsRow base 3 1 av n ((ysOf R).map eNat) ∧ KpS (fun k => av.ownBlock = some k) w w' := by
  by_cases h0 : n = 0
  · subst h0
    have hR : R = [] := List.eq_nil_of_length_eq_zero hn
    subst hR
    obtain ⟨a, c, rfl⟩ := rowV hrow
    have hC := AnyF.slices_SortFunc_none ({ Tryz.sortInts with }) a c (.func (.func 47) #[] #[.pointer (some ⟨tc, 0, none⟩)]) w
    change Calls Tryz.prog 46 _ _ _ at hC
    refine hC.mono ?_
    rintro e w' ⟨he, rfl⟩
    exact ⟨he, by simpa [ysOf, srtY] using hrow, KpS.refl _ _⟩
  · obtain ⟨g, c, rfl, -, -, -, -⟩ := ownRow_at hrow (by omega)
    obtain ⟨q1, q2, q3⟩ := h1 g rfl
    refine (sortPlc hu hx hn (by omega) hn2 hrow htc c0 hr q1 q2 q3).mono ?_
    rintro e w' ⟨he, ho, hk⟩
    exact ⟨he, ho, hk.mono fun k e => by subst e; rfl⟩


theorem ent_repeat : ∀ args w, (callFunc 49 args).run Tryz.prog w = .ok (.enter 49 args) w := enters_of Tryz.func49 (by kernel_rfl) rfl
theorem rowAdr {w : World} {base : Nat} {e : TypeId} {sz : Nat} {a : Option Addr} {n c m : Nat} {xs : List Value} (h : w.ownsRow base e sz (.slice a n c) m xs) : ∀ ad, a = some ad → (Value.slice a n c).ownBlock = some ad.block := fun ad e9 => by
  subst e9
  rcases h.2 with ⟨e8, -⟩ | ⟨g, cap, cur, e8, -⟩
  · cases e8
  · injection e8 with e8
    injection e8 with e8
    subst e8
    rfl

def BuildPH (w : World) (R : List Pt) (e : Ending) (w' : World) : Prop :=
  ∃ tb fb V, e = .returned (.tuple #[.pointer (some ⟨tb, 0, none⟩), .int .i64 0]) ∧ HptAt w' w.heap.size w'.heap.size tb fb R (fstH R) R.length V ∧ Below w.heap.size w w'

/-- what Build has laid ahead of the places: the row, the frame and its nodes, the variable -/
structure HbR (w : World) (lo fb tb tc n : Nat) (rv nv fv : Value) (l : List Pt) : Prop where
  row : w.ownsRow lo 34 3 rv n (l.flatMap ePt)
  nod : w.ownsRow lo 119 7 nv (nds n).length ((nds n).flatMap eNd)
  frm : FrmAt w lo fb n fv
  tcb : w.heap[tc]? = some (.cells #[.pointer (some ⟨tb, 0, none⟩)] 25 (0, 0))
  lof : lo ≤ fb
theorem HbR.kept {S : Nat → Prop} {w w' : World} {lo fb tb tc n : Nat} {rv nv fv : Value} {l : List Pt} (h : HbR w lo fb tb tc n rv nv fv l) (K : KpS S w w') (hS : ∀ k, k < w.heap.size → S k → ∃ cs t fr, w.heap[k]? = some (.cells cs t fr) ∧ t ≠ 34 ∧ t ≠ 119 ∧ t ≠ 149 ∧ t ≠ 25) : HbR w' lo fb tb tc n rv nv fv l := by
  have blk : ∀ {b : Nat} {cs' : Array Value} {t' : TypeId} {fr' : Nat × Nat}, w.heap[b]? = some (.cells cs' t' fr') → (∀ cs t fr, w.heap[b]? = some (.cells cs t fr) → S b → t ≠ t') → w'.heap[b]? = some (.cells cs' t' fr') := fun hb h9 => blkK K hb fun h8 => h9 _ _ _ hb h8 rfl
  refine ⟨rowE h.row K fun k h1 h2 => ?_, rowE h.nod K fun k h1 h2 => ?_, ⟨blkK K h.frm.blk fun h2 => ?_, rowE h.frm.row K fun k h1 h2 => ?_⟩, blkK K h.tcb fun h2 => ?_, h.lof⟩
  · obtain ⟨cs, t, fr, a, b, c, d, e⟩ := hS k h1 h2; exact ⟨cs, t, fr, a, b⟩
  · obtain ⟨cs, t, fr, a, b, c, d, e⟩ := hS k h1 h2; exact ⟨cs, t, fr, a, c⟩
  · have hl := (Array.getElem?_eq_some_iff.1 h.frm.blk).1
    obtain ⟨cs, t, fr, a, b, c, d, e⟩ := hS fb hl h2
    have := a.symm.trans h.frm.blk
    injection this with this
    injection this with _ this _
    exact d this
  · obtain ⟨cs, t, fr, a, b, c, d, e⟩ := hS k h1 h2; exact ⟨cs, t, fr, a, c⟩
  · have hl := (Array.getElem?_eq_some_iff.1 h.tcb).1
    obtain ⟨cs, t, fr, a, b, c, d, e⟩ := hS tc hl h2
    have := a.symm.trans h.tcb
    injection this with this
    injection this with _ this _
    exact e this
theorem rowBlk {w : World} {base : Nat} {e : TypeId} {sz : Nat} {v : Value} {n : Nat} {xs : List Value} (h : w.ownsRow base e sz v n xs) {k : Nat} (hk : v.ownBlock = some k) : ∃ cs fr, w.heap[k]? = some (.cells cs e fr) := by
  rcases h.2 with ⟨rfl, -⟩ | ⟨g, cap, cur, rfl, -, hh, -⟩
  · cases hk
  · injection hk with hk
    subst hk
    exact ⟨_, _, hh⟩

set_option maxRecDepth 100000 in
set_option maxHeartbeats 8000000 in
theorem heap_build (a : Option Addr) (c : Nat) (l : List Pt) (w : World) (hl : RdK ePt 3 w a l) (hn : l.length ≤ 20000) (hw : wfN l) (hu : unl l = true) :
    Calls Tryz.prog 16 #[.slice a l.length c] w (BuildPH w (srtX l)) := by
  have CU := heap_unlike a c l w hl (by omega) hw
  rw [hu] at CU
  have HL := Lib.hid hl
  obtain ⟨n, hnn⟩ : ∃ n, n = l.length := ⟨_, rfl⟩
  have CC := Lib.hid (fun W (hb : Below w.heap.size w W) => clonePts a l n c W hnn.symm (hl.below hb) (by omega))
  have HNN := Lib.hid hnn
  rw [← hnn] at hn CU ⊢
  have CF := Lib.hid (fun W => frame_new n (by omega) W)
  clear hnn hl
  have d1 : decide ((n : Int) > 2147483648) = false := by simp; omega
  have d2 : decide ((2147483648 : Int) < (n : Int)) = false := by simp; omega
  have d3 : decide (2147483648 < n) = false := by simp; omega
  have hidu : (ids l).Nodup := by unfold unl at hu; simpa using hu
  have HIU := Lib.hid hidu
  clear hidu hu hw
  go_enter Tryz.func16, Tryz.ntmps16
  go_wp2_with (go_at_call 40; refine CU.mono ?_; rintro e w1 ⟨rfl, hb1⟩; clear CU)
  go_wp2_with fail
  refine (CF.out w1).mono ?_
  rintro e w2 ⟨rfl, ew2⟩
  have HB2 : Hid (Below w.heap.size w w2) := by rw [ew2]; exact hb1.alloc hb1.size _
  have HF2 : Hid (w2.heap[w1.heap.size]? = some (oFrm 0 0 (.slice none 0 0) n)) := by rw [ew2]; exact lit0 w1 _
  obtain ⟨fb, hfb⟩ : ∃ fb, fb = w1.heap.size := ⟨_, rfl⟩
  have hfb2 : w.heap.size ≤ fb ∧ fb < w2.heap.size := by rw [ew2, hfb]; exact ⟨hb1.size, by simp⟩
  rw [← hfb] at HF2 ⊢
  clear ew2 hb1 hfb CF
  go_wp2_with fail
  refine (CC.out w2 HB2.out).mono ?_
  rintro e w3 ⟨rv, rfl, hr3, hb3⟩
  have hf3 := (hb3.block fb hfb2.2).trans HF2.out
  have HB3 : Hid (Below w.heap.size w w3) := HB2.out.trans (hb3.mono HB2.out.size)
  have HR3 := Lib.hid (rowMono hr3 HB2.out.size)
  have CN := Lib.hid (frame_nodes_first fb n (by omega) w3 hf3)
  have HF3 := Lib.hid hf3
  obtain ⟨ra, rc, rfl⟩ := rowV hr3
  clear hr3 hb3 hf3 CC HF2 HB2
  go_wp2_with fail
  refine CN.out.mono ?_
  rintro e w4 ⟨fv, nv, rfl, hfr, hnr, hfb4, hk4⟩
  have hs3 := HB3.out.size
  have HRW4 : Hid (w4.ownsRow w.heap.size 34 3 (.slice ra n rc) n (l.flatMap ePt)) := rowN HR3.out (by decide) HF3.out hk4
  have HFR4 : Hid (FrmAt w4 w.heap.size fb n fv) := ⟨hfb4, rowMono hfr hs3⟩
  have HND4 : Hid (w4.ownsRow w.heap.size 119 7 nv (nds n).length ((nds n).flatMap eNd)) := rowMono hnr hs3
  have HB4 : Hid (Below w.heap.size w w4) := HB3.out.trans (hk4.toBelow hs3 (fun k h => by have := hfb2.1; omega))
  obtain ⟨na, nc, rfl⟩ := rowV hnr
  obtain ⟨M, hM⟩ : ∃ M, M = (nds n).length := ⟨_, rfl⟩
  have HMM := Lib.hid hM
  have hM4 : M ≤ 40000 := by rw [hM, nds_len]; omega
  rw [← hM]
  clear hfr hnr hfb4 hk4 CN hM HR3 HF3 HB3
  go_upto_region 9 with fail
  obtain ⟨wc, ewc⟩ : ∃ wc, wc = (w4.alloc (.cells #[.slice ra n rc, .slice none 0 0, .pointer (some ⟨fb, 0, none⟩), .slice na M nc, .slice none 0 0, .int .i64 n] 90)).alloc (.cells #[.pointer (some ⟨w4.heap.size, 0, none⟩)] 25) := ⟨_, rfl⟩
  have hb4c : Below w4.heap.size w4 wc := by rw [ewc]; exact ((Below.refl _ _).alloc (Nat.le_refl _) _).alloc (by simp) _
  obtain ⟨tb, htb⟩ : ∃ tb, tb = w4.heap.size := ⟨_, rfl⟩
  have hT : wc.heap[tb]? = some (hepB (.slice ra n rc) (.slice none 0 0) fb (.slice na M nc) (.slice none 0 0) n) := by rw [ewc, htb]; exact lit1 w4 _ _
  have hTC : wc.heap[tb + 1]? = some (.cells #[.pointer (some ⟨tb, 0, none⟩)] 25 (0, 0)) := by rw [ewc, htb]; exact lit2 w4 _ _
  rw [← ewc, ← htb]
  have HR : Hid (HbR wc w.heap.size fb tb (tb + 1) n (.slice ra n rc) (.slice na M nc) fv l) := by
    have K : KpS (fun _ => False) w4 wc := (KpS.refl _ w4).below hb4c
    exact ⟨rowK HRW4.out K (fun _ _ h => h), by rw [← HMM.out]; have := rowK HND4.out K (fun _ _ h => h); rwa [← HMM.out] at this, ⟨blkK K HFR4.out.blk (fun h => h), rowK HFR4.out.row K (fun _ _ h => h)⟩, hTC, hfb2.1⟩
  have HT := Lib.hid hT
  have HB : Hid (Below w.heap.size w wc) := HB4.out.trans (hb4c.mono HB4.out.size)
  have htbs : w.heap.size ≤ tb := by rw [htb]; exact HB4.out.size
  obtain ⟨tc, htc⟩ : ∃ tc, tc = tb + 1 := ⟨_, rfl⟩
  rw [← htc] at HR hTC ⊢
  clear ewc hb4c hT HRW4 HFR4 HND4 HB4 htb htc
  have htl := (Array.getElem?_eq_some_iff.1 HT.out).1
  have CS := Lib.hid (sortPtsXK HNN.out.symm (by omega) HR.out.row HIU.out)
  have hTT := HT.out
  have c0 : wc.cell? ⟨tb, 0, none⟩ = some (.slice ra n rc) := by simp [World.cell?, hTT]
  have t0 : wc.cell? ⟨tc, 0, none⟩ = some (.pointer (some ⟨tb, 0, none⟩)) := by simp [World.cell?, hTC]
  clear hTT hTC
  go_wp2_with fail
  refine CS.out.mono ?_
  rintro e w4 ⟨rfl, hr4, hk4⟩
  have hR4 : HbR w4 w.heap.size fb tb tc n (.slice ra n rc) (.slice na M nc) fv (srtX l) := by
    have h := HR.out
    have h2 := h.kept (S := fun k => (Value.slice ra n rc).ownBlock = some k) hk4
    refine ⟨hr4, rowE h.nod hk4 fun k h1 h2 => ?_, ⟨blkK hk4 h.frm.blk fun h2 => ?_, rowE h.frm.row hk4 fun k h1 h2 => ?_⟩, blkK hk4 h.tcb fun h2 => ?_, h.lof⟩
    · obtain ⟨cs, fr, e⟩ := rowBlk h.row h2; exact ⟨cs, _, fr, e, by decide⟩
    · exact row_ne h.row h.frm.blk (by decide) fb h2 rfl
    · obtain ⟨cs, fr, e⟩ := rowBlk h.row h2; exact ⟨cs, _, fr, e, by decide⟩
    · exact row_ne h.row h.tcb (by decide) tc h2 rfl
  have HT4 : Hid (w4.heap[tb]? = some (hepB (.slice ra n rc) (.slice none 0 0) fb (.slice na M nc) (.slice none 0 0) n)) := blkK hk4 HT.out (fun h => row_ne HR.out.row HT.out (by decide) tb h rfl)
  have HB4 : Hid (Below w.heap.size w w4) := HB.out.trans (hk4.toBelow HB.out.size (fun k h => (HR.out.row.lt k h).1))
  have HR4 := Lib.hid hR4
  have hRl : (srtX l).length = n := by rw [(srtX_perm l).length_eq]; exact HNN.out.symm
  have hRu : (ids (srtX l)).Nodup := ((srtX_perm l).map _).nodup_iff.2 HIU.out
  have HRS : Hid ((srtX l).Pairwise ltX ∧ (ids (srtX l)).Nodup) := ⟨srtX_sorted HIU.out, hRu⟩
  clear hr4 hk4 hR4 HR HT HB CS hRu c0 t0 htl
  generalize hRR : srtX l = R at *
  clear hRR
  have htl := (Array.getElem?_eq_some_iff.1 HT4.out).1
  have htcl := (Array.getElem?_eq_some_iff.1 HR4.out.tcb).1
  have htt := HT4.out
  have htc := HR4.out.tcb
  have c0 : w4.cell? ⟨tb, 0, none⟩ = some (.slice ra n rc) := by simp [World.cell?, htt]
  have t0 : w4.cell? ⟨tc, 0, none⟩ = some (.pointer (some ⟨tb, 0, none⟩)) := by simp [World.cell?, htc]
  clear htt htc
  go_wp2_with fail
  have hntc : tc ≠ tb := fun e => by
    have h1 := HR4.out.tcb
    rw [e, HT4.out] at h1
    injection h1 with h1
    injection h1 with _ h1 _
    exact absurd h1 (by decide)
  go_loopg [7, 43] n (fun kx s7 s43 wr => ∃ (i : Nat) (xv av : Value), s43 = .int .i64 i ∧ s7 = av ∧ i ≤ n ∧ n - i ≤ kx ∧ Hid (wr.heap[tb]? = some (hepB (.slice ra n rc) xv fb (.slice na M nc) (.slice none 0 0) n)) ∧ Hid (wr.ownsRow w4.heap.size 2 1 xv i (((xsR R).take i).map (Value.int .i64))) ∧ Hid (wr.ownsRow w4.heap.size 3 1 av i ((List.range i).map eNat)) ∧ Hid (KpS (fun k => k = tb) w4 wr))
  case atStart => exact ⟨0, _, _, rfl, rfl, Nat.zero_le _, by omega, HT4, World.ownsRow_nil _ _ _ _, World.ownsRow_nil _ _ _ _, KpS.refl _ _⟩
  case round =>
    obtain ⟨i, xv, av, rfl, rfl, hi, hkx, HT5, HX5, HA5, HK5⟩ := hrel
    by_cases hin : i < n
    · have hrr := rowK HR4.out.row HK5.out (fun g h h2 => row_ne HR4.out.row HT4.out (by decide) g h h2.symm)
      obtain ⟨_, _, ee, -, -, hrd⟩ := RdK.of_owns ePt_len (by decide) hrr
      injection ee with e1 e2 e3
      subst e1
      clear e2 e3
      obtain ⟨b, off, ea, hbl, hcs⟩ := hrd.get (by omega)
      have x0 := hcs i (by omega) 0 (by omega)
      have x1 := hcs i (by omega) 1 (by omega)
      have x2 := hcs i (by omega) 2 (by omega)
      simp only [ePt, List.getElem?_cons_zero, List.getElem?_cons_succ, Nat.add_zero] at x0 x1 x2
      have hxt : (xsR R).take (i + 1) = (xsR R).take i ++ [R[i].1] := by
        have h : i < (xsR R).length := by unfold xsR; simp; omega
        rw [List.take_succ_eq_append_getElem h]
        simp [xsR]
      have HXT := Lib.hid hxt
      subst ea
      clear hcs hrd hxt hrr
      generalize R[i] = p at *
      obtain ⟨px, py, pi⟩ := p
      simp only at HXT x0 x1 x2
      have htc := HT5.out
      have htl5 := (Array.getElem?_eq_some_iff.1 htc).1
      have htcv := (HK5.out.block tc htcl hntc).trans HR4.out.tcb
      have htcl5 := (Array.getElem?_eq_some_iff.1 htcv).1
      obtain ⟨xa, xc, rfl⟩ := rowV HX5.out
      obtain ⟨aa, ac, rfl⟩ := rowV HA5.out
      go_upto_region 14 with fail
      obtain ⟨w6, ew6⟩ : ∃ w6, w6 = wr.alloc (.cells #[.int .i64 px, .int .i64 py, .int .u32 pi] 34) := ⟨_, rfl⟩
      have hb6 : Below wr.heap.size wr w6 := by rw [ew6]; exact (Below.refl _ _).alloc (Nat.le_refl _) _
      have hx6 : w6.heap[wr.heap.size]? = some (.cells #[.int .i64 px, .int .i64 py, .int .u32 pi] 34 (0, 0)) := by rw [ew6]; exact lit0 wr _
      have ht6 := (hb6.block tb htl5).trans htc
      have htc6 := (hb6.block tc htcl5).trans htcv
      have hs45 := HK5.out.size
      have hs56 := hb6.size
      have hxb : ∀ g, (Value.slice xa i xc).ownBlock = some g → w4.heap.size ≤ g ∧ g < wr.heap.size := fun g h => HX5.out.lt g h
      have nDt : ¬ (Value.slice xa i xc).ownBlock = some tb := fun h => by have := (hxb tb h).1; omega
      have nDc : ¬ (Value.slice xa i xc).ownBlock = some tc := fun h => by have := (hxb tc h).1; omega
      have nDp : ¬ (Value.slice xa i xc).ownBlock = some wr.heap.size := fun h => by have := (hxb _ h).2; omega
      have keep : ∀ {bk o : Nat} {v : Value}, bk < w6.heap.size → ¬ (Value.slice xa i xc).ownBlock = some bk → w6.cell? ⟨bk, o, none⟩ = some v → ∀ p : KeptW (fun k => (Value.slice xa i xc).ownBlock = some k) w6, p.W.cell? ⟨bk, o, none⟩ = some v := fun hb hd hv p => ((cellK p.h hb hd).1 _).trans hv
      have hp6 : wr.heap.size < w6.heap.size := (Array.getElem?_eq_some_iff.1 hx6).1
      have g0 := keep (Nat.lt_of_lt_of_le htcl5 hs56) nDc (o := 0) (v := .pointer (some ⟨tb, 0, none⟩)) (by simp [World.cell?, htc6])
      have g1 := keep (Nat.lt_of_lt_of_le htl5 hs56) nDt (o := 1) (v := .slice xa i xc) (by simp [World.cell?, ht6])
      have g2 := keep hp6 nDp (o := 0) (v := .int .i64 px) (by simp [World.cell?, hx6])
      have HX6 := Lib.hid (ownsRow_below HX5.out hb6)
      have HA6 := Lib.hid (ownsRow_below HA5.out hb6)
      have HK6 : Hid (KpS (fun k => k = tb) w4 w6) := HK5.out.below hb6
      have HT6 := Lib.hid ht6
      rw [← ew6]
      clear ew6 hb6 hx6 ht6 htc6 htcv htc x0 x1 x2 keep nDc nDp nDt
      refine wp_region_head (fun W => ∃ p : KeptW (fun k => (Value.slice xa i xc).ownBlock = some k) w6, W = p.W) [9, 10, 11] [(0, true), (1, true), (2, false), (3, false), (4, true), (5, false), (6, true)] (by kernel_rfl) (by kernel_rfl) (fun _ _ d _ _ h => by cases d <;> exact h) ⟨⟨_, (KpS.refl _ _).drew⟩, rfl⟩ 5 rfl (by kernel_rfl) ?_
      simp only [pickB, List.filterMap_cons, List.filterMap_nil, List.getElem?_toArray, List.getElem?_cons_succ, List.getElem?_cons_zero, Option.map_some]
      repeat (refine wpHd_step (fun K hK => ?_); go_simp; first | (refine hK _ ?_; clear hK K) | (apply Exists.intro; refine ⟨fun _ => ?_, hK _ ?_⟩; rfl; clear hK K))
      refine wpHd_nil ?_
      refine wpAnyT_ready [7] (by kernel_rfl) (by simp) ?_
      refine AllReadyT.cons rfl (fun K hK => ?_) AllReadyT.nil
      go_simp
      refine hK _ _ (fun _ _ => ⟨⟨_, ((KpS.refl _ w6).alloc _).drew⟩, rfl⟩) ?_
      clear hK K
      refine wpAnyT_ready [8] (by kernel_rfl) (by simp) ?_
      refine AllReadyT.cons rfl (fun K hK => ?_) AllReadyT.nil
      refine step_append1E elInt64 w4.heap.size (w := (w6.alloc (.cells #[.int .i64 px] 2)).drew) (ownsRow_below HX6.out ((Below.refl _ w6).alloc (Nat.le_refl _) _ |>.drew)) [.int .i64 px] rfl (by simp [Value.oneCell']) rfl (.tmp 52) (.tmp 55) rfl rfl w6.heap.size rfl (lit0d _ _) (by unfold maxLen; omega) (by omega) (by simp; omega) ?_
      intro ga capa w8 hown8 hg8 hblk8 hlt8
      have hg68 : w6.grownBy w8 (Value.slice xa i xc).ownBlock := grownBy_trans (below_asGrown ((Below.refl _ w6).alloc (Nat.le_refl _) _ |>.drew)) hg8
      have KA8 : KpS (fun k => (Value.slice xa i xc).ownBlock = some k) w6 w8 := (KpS.refl _ w6).grown hg68 (fun k hk => .inl hk)
      refine hK _ _ (fun _ _ => ⟨⟨_, KA8⟩, rfl⟩) ?_
      clear hK K
      refine wpAnyT_line [9, 10, 11] _ _ _ (by kernel_rfl) ?_
      simp only [pick, List.filterMap_cons, List.filterMap_nil, List.getElem?_toArray, List.getElem?_cons_succ, List.getElem?_cons_zero]
      have ht8 := blkK KA8 HT6.out (fun h => by have := (hxb tb h).1; omega)
      have q8 : w8.cell? ⟨tb, 1, none⟩ = some (.slice xa i xc) := by simp [World.cell?, ht8]
      have f8 : w8.frozen? ⟨tb, 1, none⟩ = false := by simp [World.frozen?, ht8]
      have HT9 : Hid ((w8.setCell ⟨tb, 1, none⟩ (.slice (some ⟨ga, 0, none⟩) (i + 1) capa)).heap[tb]? = some (hepB (.slice (some ⟨b, off, none⟩) n rc) (.slice (some ⟨ga, 0, none⟩) (i + 1) capa) fb (.slice na M nc) (.slice none 0 0) n)) := heap_setCell_same w8 tb 1 _ _ _ ht8
      have KT9 : KpS (fun k => k = tb) w8 (w8.setCell ⟨tb, 1, none⟩ (.slice (some ⟨ga, 0, none⟩) (i + 1) capa)) := (KpS.refl (fun k => k = tb) w8).set (a := ⟨tb, 1, none⟩) (.slice (some ⟨ga, 0, none⟩) (i + 1) capa) (.inl rfl)
      have HX9 : Hid ((w8.setCell ⟨tb, 1, none⟩ (.slice (some ⟨ga, 0, none⟩) (i + 1) capa)).ownsRow w4.heap.size 2 1 (.slice (some ⟨ga, 0, none⟩) (i + 1) capa) (i + 1) (((xsR R).take (i + 1)).map (Value.int .i64))) := by
        have h9 := rowK (S := fun k => k = tb) hown8 KT9 (fun g h h2 => by have := (hown8.lt g h).1; omega)
        show World.ownsRow _ _ _ _ _ _ _
        rw [HXT.out, List.map_append]
        exact h9
      have HA8 := rowK HA6.out KA8 (fun g h h2 => rows_ne HA6.out HX6.out (by decide) g h h2)
      have HA9 : Hid ((w8.setCell ⟨tb, 1, none⟩ (.slice (some ⟨ga, 0, none⟩) (i + 1) capa)).ownsRow w4.heap.size 3 1 (.slice aa i ac) i ((List.range i).map eNat)) := rowK HA8 KT9 (fun g h h2 => by have := (HA8.lt g h).1; omega)
      have HK9 : Hid (KpS (fun k => k = tb) w4 (w8.setCell ⟨tb, 1, none⟩ (.slice (some ⟨ga, 0, none⟩) (i + 1) capa))) := ((HK6.out.mono (S' := fun k => k = tb ∨ w4.heap.size ≤ k) (fun k h => .inl h)).trans (KA8.mono (fun k h => .inr (hxb k h).1))).strip.set (a := ⟨tb, 1, none⟩) _ (.inl rfl)
      have hs68 := KA8.size
      clear KA8 hg68 hg8 hown8 ht8 g0 g1 g2 HX6 HT6 HK6 hxb HA8 HA6 HA5 HX5 HT5 HK5 KT9
      go_upto_region 15 with fail
      obtain ⟨w9, ew9⟩ : ∃ w9, w9 = w8.setCell ⟨tb, 1, none⟩ (.slice (some ⟨ga, 0, none⟩) (i + 1) capa) := ⟨_, rfl⟩
      rw [← ew9] at HT9 HX9 HA9 HK9 ⊢
      have hs9 : w4.heap.size ≤ w9.heap.size := HK9.out.size
      clear ew9 q8 f8
      go_wp2_with (at_builtin; refine wp_append1B elInt w4.heap.size HA9.out [.int .i64 (i : Nat)] rfl (by simp [Value.oneCell']) rfl _ _ rfl rfl _ rfl (by unfold maxLen; omega) (by omega) hs9 ?_; intro v' w10 hown' hg hblk)
      go_roundg (n - (i + 1))
      case measure => omega
      case rel =>
        have KA : KpS (fun k => (Value.slice aa i ac).ownBlock = some k) w9 w10 := (KpS.refl _ w9).grown hg (fun k hk => .inl hk)
        refine ⟨i + 1, _, v', by go_num, rfl, by omega, Nat.le_refl _, blkK KA HT9.out (fun h => by have := (HA9.out.lt tb h).1; omega), rowK HX9.out KA (fun g h h2 => rows_ne HX9.out HA9.out (by decide) g h h2), ?_, ?_⟩
        · show World.ownsRow _ _ _ _ _ _ _
          rw [List.range_succ, List.map_append]
          exact hown'
        · exact ((HK9.out.mono (S' := fun k => k = tb ∨ w4.heap.size ≤ k) (fun k h => .inl h)).trans (KA.mono (fun k h => .inr (HA9.out.lt k h).1))).strip
    · obtain rfl : i = n := by omega
      obtain ⟨aa, ac, rfl⟩ := rowV HA5.out
      have HR5 : Hid (HbR wr w.heap.size fb tb tc i (.slice ra i rc) (.slice na M nc) fv R) := HR4.out.kept HK5.out (fun k h1 h2 => by subst h2; exact ⟨_, _, _, HT4.out, by decide, by decide, by decide, by decide⟩)
      have HB5 : Hid (Below w.heap.size w wr) := HB4.out.trans (HK5.out.toBelow HB4.out.size (fun k h => by omega))
      have hX5 := HX5.out
      rw [List.take_of_length_le (by unfold xsR; simp; omega)] at hX5
      have HXX := Lib.hid hX5
      have hs45 := HK5.out.size
      have hA5 := HA5.out
      have HA := Lib.hid hA5
      have htT := HT5.out
      have htC := HR5.out.tcb
      have c0' : wr.cell? ⟨tb, 0, none⟩ = some (.slice ra i rc) := by simp [World.cell?, htT]
      have t0' : wr.cell? ⟨tc, 0, none⟩ = some (.pointer (some ⟨tb, 0, none⟩)) := by simp [World.cell?, htC]
      obtain ⟨_, _, ee, -, -, hrd⟩ := RdK.of_owns ePt_len (by decide) HR5.out.row
      injection ee with e1 e2 e3
      subst e1
      clear e2 e3
      have hav : ∀ g, (Value.slice aa i ac).ownBlock = some g → w4.heap.size ≤ g := fun g h => (hA5.lt g h).1
      have CP := Lib.hid (sortPlcV HRS.out.2 HRS.out.1 hRl (by omega) hA5 t0' c0' hrd (fun g h => ⟨by have := hav g h; omega, by have := hav g h; omega, fun ad e h9 => by
        have h8 := rowAdr HR4.out.row ad e
        have := (HR4.out.row.lt _ h8).2
        have := hav g h
        omega⟩))
      have HAV := Lib.hid hav
      obtain ⟨xa, xc, rfl⟩ := rowV hX5
      clear hX5 hA5 htT htC hrd hav c0 t0 c0' t0' HX5 HA5 HK5
      go_wp2_with fail
      refine CP.out.mono ?_
      rintro e wS ⟨rfl, hrS, hkS⟩
      have HRS2 : Hid (HbR wS w.heap.size fb tb tc i (.slice ra i rc) (.slice na M nc) fv R) := HR5.out.kept hkS (fun k h1 h2 => by obtain ⟨cs, fr, e⟩ := rowBlk HA.out h2; exact ⟨cs, _, fr, e, by decide, by decide, by decide, by decide⟩)
      have HTS : Hid (wS.heap[tb]? = some (hepB (.slice ra i rc) (.slice xa i xc) fb (.slice na M nc) (.slice none 0 0) i)) := blkK hkS HT5.out (fun h => by have := HAV.out tb h; omega)
      have HXS : Hid (wS.ownsRow w.heap.size 2 1 (.slice xa i xc) i ((xsR R).map (Value.int .i64))) := rowMono (rowK HXX.out hkS (fun g h h2 => rows_ne HXX.out HA.out (by decide) g h h2)) HB4.out.size
      have HAS := Lib.hid hrS
      have HBS : Hid (Below w.heap.size w wS) := HB5.out.trans (hkS.toBelow HB5.out.size (fun k h => by have := HAV.out k h; have := HB4.out.size; omega))
      have htlS := (Array.getElem?_eq_some_iff.1 HTS.out).1
      have htcS := (Array.getElem?_eq_some_iff.1 HRS2.out.tcb).1
      have htT := HTS.out
      have htC := HRS2.out.tcb
      clear hrS hkS CP HR5 HB5 HXX HA HT5 htl htcl hs45
      have g0 := cell_belowW (w := wS) (ad := ⟨tc, 0, none⟩) (v := .pointer (some ⟨tb, 0, none⟩)) (by simp [World.cell?, htC])
      have g1 := cell_belowW (w := wS) (ad := ⟨tb, 3, none⟩) (v := .slice na M nc) (by simp [World.cell?, htT])
      clear htT htC
      go_upto_region 18 with fail
      refine wp_region_head (fun W => ∃ p : BelowW wS, W = p.W) [8, 9, 10] [(0, true), (2, true), (3, false), (4, false), (5, true), (6, false)] (by kernel_rfl) (by kernel_rfl) (fun _ _ d _ _ h => by cases d <;> exact h) ⟨⟨_, (Below.refl _ _).drew⟩, rfl⟩ 5 rfl (by kernel_rfl) ?_
      simp only [pickB, List.filterMap_cons, List.filterMap_nil, List.getElem?_toArray, List.getElem?_cons_succ, List.getElem?_cons_zero, Option.map_some]
      repeat (refine wpHd_step (fun K hK => ?_); go_simp; first | (refine hK _ ?_; clear hK K) | (apply Exists.intro; refine ⟨fun _ => ?_, hK _ ?_⟩; rfl; clear hK K))
      refine wpHd_nil ?_
      refine wpAnyT_ready [1] (by kernel_rfl) (by simp) ?_
      refine AllReadyT.cons rfl (fun K hK => ?_) AllReadyT.nil
      obtain ⟨w6, ew6⟩ : ∃ w6, w6 = (wS.alloc (.cells #[.int .i64 (-1)] 3)).drew := ⟨_, rfl⟩
      have hb6 : Below wS.heap.size wS w6 := by rw [ew6]; exact ((Below.refl _ _).alloc (Nat.le_refl _) _).drew
      have hx6 : w6.heap[wS.heap.size]? = some (.cells #[.int .i64 (-1)] 3 (0, 0)) := by rw [ew6]; exact lit0 wS _
      go_simp
      rw [← ew6]
      clear ew6
      refine hK _ _ (fun _ _ => ⟨⟨_, hb6⟩, rfl⟩) ?_
      clear hK K
      refine wpAnyT_ready [7] (by kernel_rfl) (by simp) ?_
      refine AllReadyT.cons rfl (fun K hK => ?_) AllReadyT.nil
      refine step_call ent_repeat rfl _ _ rfl (vals := #[.slice (some ⟨wS.heap.size, 0, none⟩) 1 1, .int .i64 M]) rfl (rep_none w6 wS.heap.size M hx6 (by omega)) ?_
      rintro e w7 ⟨hv, rfl, hown7, hb7⟩
      have hb67 : Below wS.heap.size wS w7 := hb6.trans (hb7.mono hb6.size)
      refine ⟨_, rfl, hK _ _ (fun _ _ => ⟨⟨_, hb67⟩, rfl⟩) ?_⟩
      clear hK K
      refine wpAnyT_line [8, 9, 10] _ _ _ (by kernel_rfl) ?_
      simp only [pick, List.filterMap_cons, List.filterMap_nil, List.getElem?_toArray, List.getElem?_cons_succ, List.getElem?_cons_zero]
      have ht7 := (hb67.block tb htlS).trans HTS.out
      have q7 : w7.cell? ⟨tb, 4, none⟩ = some (.slice none 0 0) := by simp [World.cell?, ht7]
      have f7 : w7.frozen? ⟨tb, 4, none⟩ = false := by simp [World.frozen?, ht7]
      obtain ⟨ha, hc, rfl⟩ := rowV hown7
      obtain ⟨w8, ew8⟩ : ∃ w8, w8 = w7.setCell ⟨tb, 4, none⟩ (.slice ha M hc) := ⟨_, rfl⟩
      have KT : KpS (fun k => k = tb) w7 w8 := by rw [ew8]; exact (KpS.refl (fun k => k = tb) w7).set (a := ⟨tb, 4, none⟩) _ (.inl rfl)
      have K7 : KpS (fun _ => False) wS w7 := (KpS.refl _ wS).below hb67
      have hR7 : HbR w7 w.heap.size fb tb tc i (.slice ra i rc) (.slice na M nc) fv R := HRS2.out.kept K7 (fun k h1 h2 => h2.elim)
      have hR8 : HbR w8 w.heap.size fb tb tc i (.slice ra i rc) (.slice na M nc) fv R := hR7.kept KT (fun k h1 h2 => by subst h2; exact ⟨_, _, _, ht7, by decide, by decide, by decide, by decide⟩)
      have hX8 := rowT (rowK HXS.out K7 (fun _ _ h => h)) KT ht7 (by decide)
      have hH8 := rowT hown7 KT ht7 (by decide)
      have hA8 := rowT (rowK HAS.out K7 (fun _ _ h => h)) KT ht7 (by decide)
      have hs6 : wS.heap.size ≤ w6.heap.size := hb6.size
      have hs7 : wS.heap.size ≤ w7.heap.size := hb67.size
      have hs8 : w7.heap.size ≤ w8.heap.size := KT.size
      have hsw := HBS.out.size
      have HH : Hid (HptAt w8 w.heap.size w8.heap.size tb fb R (fun _ => none) i ⟨.slice ra i rc, .slice xa i xc, .slice na M nc, .slice ha M hc, fv⟩) := by
        refine ⟨by rw [ew8]; exact heap_setCell_same w7 tb 4 _ _ _ ht7, ⟨htbs, by omega, hfb2.1, (Array.getElem?_eq_some_iff.1 hR8.frm.blk).1, Nat.le_refl _⟩, by rw [hRl]; exact hR8.row, by rw [hRl]; exact hX8, by rw [hRl]; exact hR8.frm, by rw [hRl]; exact hR8.nod, ?_, ?_⟩
        · rw [hRl, ← HMM.out, hlF_none]
          exact rowMono hH8 (by omega)
        · rintro v (rfl | rfl | rfl | rfl | rfl) g e
          · exact (hR8.row.lt g e).2
          · exact (hX8.lt g e).2
          · exact (hR8.nod.lt g e).2
          · exact (hH8.lt g e).2
          · exact (hR8.frm.row.lt g e).2
      have HB8 : Hid (Below w.heap.size w w8) := (HBS.out.trans (hb67.mono HBS.out.size)).trans (KT.toBelow (by omega) (fun k h => by omega))
      have HA8 := Lib.hid hA8
      have HTC8 := Lib.hid hR8.tcb
      have htc8 : tc < w8.heap.size := (Array.getElem?_eq_some_iff.1 hR8.tcb).1
      have HHB : Hid (∀ g, (Value.slice ha M hc).ownBlock = some g → wS.heap.size ≤ g) := fun g e => by have := (hH8.lt g e).1; omega
      clear g0 g1 hb6 hx6 hown7 hb7 hb67 ht7 KT K7 hR7 hR8 hX8 hH8 hA8 hs6 hs7 hs8
      go_upto_region 19 with fail
      rw [← ew8]
      clear ew8 q7 f7
      by_cases h0 : i = 0
      · have d5 : decide ((i : Int) > 0) = false := by simp; omega
        have d6 : decide ((0 : Int) < (i : Int)) = false := by simp; omega
        have d7 : decide (0 < i) = false := by simp; omega
        have hfs : fstH R = fun _ => none := by
          have hR0 : R = [] := List.eq_nil_of_length_eq_zero (by omega)
          subst hR0
          unfold fstH
          rw [show ysOf [] = [] from List.eq_nil_of_length_eq_zero (by rw [ysOf_len]; rfl), fillH_nil]
        have HFIN : Hid (BuildPH w R (.returned (.tuple #[.pointer (some ⟨tb, 0, none⟩), .int .i64 0])) w8) := ⟨tb, fb, ⟨.slice ra i rc, .slice xa i xc, .slice na M nc, .slice ha M hc, fv⟩, rfl, by rw [hfs, hRl]; exact HH.out, HB8.out⟩
        have htC := HTC8.out
        have t8 : w8.cell? ⟨tc, 0, none⟩ = some (.pointer (some ⟨tb, 0, none⟩)) := by simp [World.cell?, htC]
        clear hfs htC h0
        go_wp2
        go_ret2
        exact HFIN.out
      · have h0' : 0 < i := by omega
        have d5 : decide ((i : Int) > 0) = true := by simp; omega
        have d6 : decide ((0 : Int) < (i : Int)) = true := by simp; omega
        have d7 : decide (0 < i) = true := by simp; omega
        have hbd : Below w8.heap.size w8 w8.drew := (Below.refl _ _).drew
        have hmd := HH.out.below hbd (Nat.le_refl _)
        have hfb8 := hmd.frm.blk
        rw [hRl] at hfb8
        have CRT := Lib.hid (frame_root fb i h0' (by omega) w8.drew (by simp [World.cell?, hfb8]) (by simp [World.cell?, hfb8]))
        obtain ⟨w1', w2', w3'⟩ := mkT_spec 0 i h0'
        have hTs := mkT_size 0 i h0'
        obtain ⟨_, _, eA, -, hcA, hrA⟩ := Rd.of_owns (enc := eNat) (ownsRow_below HA8.out hbd)
        injection eA with eA1 eA2 eA3
        subst eA1 eA3
        have CF := Lib.hid (heap_fill (by omega) (mkT 0 i) 0 (by rw [hRl]; exact nds_at i h0') w1' (by omega) (ysOf R) w8.drew (fun _ => none) aa ac hmd hrA (by rw [ysOf_len]; omega) hcA (fun ad e h9 => by
          have h8 := rowAdr HAS.out ad e
          have := (HAS.out.lt _ h8).2
          have := HHB.out _ h9
          omega) (fun k hk => by have := (ysOf_wf HRS.out.1 HRS.out.2).lt hk; omega))
        rw [ysOf_len, hRl, show (mkT 0 i).root 0 = 2 * i - 2 by unfold FT.root; omega] at CF
        have HFS : Hid (fillH (mkT 0 i) 0 (ysOf R) (fun _ => none) = fstH R) := by show _ = _; unfold fstH; rw [hRl]
        have htC := HTC8.out
        have g0 := cell_belowW (w := w8) (ad := ⟨tc, 0, none⟩) (v := .pointer (some ⟨tb, 0, none⟩)) (by simp [World.cell?, htC])
        clear htC hfb8 hmd w1' w2' w3' hTs hcA hrA eA2 h0
        go_upto_region 20 with fail
        refine wp_region_head (fun W => ∃ p : BelowW w8, W = p.W) [4] [(0, true), (1, false), (3, false)] (by kernel_rfl) (by kernel_rfl) (fun _ _ d _ _ h => by cases d <;> exact h) ⟨⟨_, (Below.refl _ _).drew⟩, rfl⟩ 2 rfl (by kernel_rfl) ?_
        simp only [pickB, List.filterMap_cons, List.filterMap_nil, List.getElem?_toArray, List.getElem?_cons_succ, List.getElem?_cons_zero, Option.map_some]
        repeat (refine wpHd_step (fun K hK => ?_); go_simp; first | (refine hK _ ?_; clear hK K) | (apply Exists.intro; refine ⟨fun _ => ?_, hK _ ?_⟩; rfl; clear hK K))
        refine wpHd_nil ?_
        refine wpAnyT_ready [2] (by kernel_rfl) (by simp) ?_
        refine AllReadyT.cons rfl (fun K hK => ?_) AllReadyT.nil
        refine step_call ent_froot rfl _ _ rfl (vals := #[.pointer (some ⟨fb, 0, none⟩)]) rfl CRT.out ?_
        rintro e w' ⟨rfl, ew'⟩
        subst ew'
        refine ⟨_, rfl, hK _ _ (fun _ _ => ⟨⟨_, hbd⟩, rfl⟩) ?_⟩
        clear hK K
        refine wpAnyT_line [4] _ _ _ (by kernel_rfl) ?_
        simp only [pick, List.filterMap_cons, List.filterMap_nil, List.getElem?_toArray, List.getElem?_cons_succ, List.getElem?_cons_zero]
        go_wp2_with fail
        refine CF.out.mono ?_
        rintro e w9 ⟨rfl, hM9, hK9⟩
        have htc9 := (hK9.block tc (show tc < w8.drew.heap.size from htc8) (fun h => by have := HHB.out tc h; omega)).trans (show w8.drew.heap[tc]? = _ from HTC8.out)
        have t9 : w9.cell? ⟨tc, 0, none⟩ = some (.pointer (some ⟨tb, 0, none⟩)) := by simp [World.cell?, htc9]
        have HFIN : Hid (BuildPH w R (.returned (.tuple #[.pointer (some ⟨tb, 0, none⟩), .int .i64 0])) w9) := by
          refine ⟨tb, fb, ⟨.slice ra i rc, .slice xa i xc, .slice na M nc, .slice ha M hc, fv⟩, rfl, ?_, ?_⟩
          · rw [← HFS.out, hRl]
            exact hM9.grow (by have := hK9.size; exact this) (Nat.le_refl _)
          · exact (HB8.out.trans (hbd.mono HB8.out.size)).trans (hK9.toBelow (by have := HB8.out.size; exact this) (fun k h => by have := HHB.out k h; omega))
        clear hM9 hK9 htc9
        go_wp2
        go_ret2
        exact HFIN.out
end Go.Proofs.YtggfdlanobndjaaGreat
