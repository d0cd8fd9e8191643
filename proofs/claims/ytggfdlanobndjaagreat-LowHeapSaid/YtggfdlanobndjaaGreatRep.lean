/- slices.Repeat of one number; rows of numbers that are made. -/
import Derived.Test.YtggfdlanobndjaaGreatHpA
import Derived.Test.YtggfdlanobndjaaGreatCan
import Derived.Test.YtggfdlanobndjaaGreatQ6
import Derived.Test.YtggfdlanobndjaaGreatShelf
import Derived.Laws.CopyOwn
import Derived.Deep.CutBlock
import Derived.Deep.CutRange
import Derived.Deep.LoopGhost
namespace Go.Proofs.YtggfdlanobndjaaGreat
open Go.RowKit Go.Sort Go.Shelf Go.Lib Go.Maps
attribute [local irreducible] wpQuiet
attribute [local go_sem] Oper.still1
set_option linter.unusedSimpArgs false
set_option linter.unusedVariables false

theorem info_int : ∃ i, Tryz.prog.info? 3 = some i ∧ i.zero = some (.int .i64 0) ∧ i.size = 1 ∧ i.bytes = 8 := by
  have h : (Tryz.prog.info? 3).map (fun i => (i.zero, i.size, i.bytes)) = some (some (.int .i64 0), 1, 8) := by kernel_rfl
  cases hi : Tryz.prog.info? 3 with
  | none => rw [hi] at h; cases h
  | some i => rw [hi] at h; injection h with h; injection h with h1 h2; injection h2 with h2 h3; exact ⟨i, rfl, h1, h2, h3⟩
theorem size_int : (Tryz.prog.info? 3).map (·.size) = some 1 := by
  obtain ⟨i, h1, h2, h3, h4⟩ := info_int
  rw [h1]; simp [h3]
theorem mk_ints (n : Nat) (hn : n ≤ 1000000) (W : World) : (Instr.makeSlice 88 (.int .i64 n) (.int .i64 n)).run Tryz.prog W = .ok (.slice (some ⟨W.heap.size, 0, none⟩) n n) (W.alloc (.cells (madeCells #[.int .i64 0] n) 3)) := by
  obtain ⟨i, hi, hz, hs, hb⟩ := info_int
  have h := run_make (P := Tryz.prog) W 88 3 i (.int .i64 0) Tryz.underlying88 hi hz .i64 .i64 n n (by omega) (Int.le_refl _) (by rw [hb]; omega) (by omega)
  rw [h, Int.toNat_natCast, hs, Nat.mul_one]
  rfl
theorem cells_ints (W : World) (n : Nat) : (W.alloc (.cells (madeCells #[.int .i64 0] n) 3)).heap[W.heap.size]? = some (.cells (List.replicate n (Value.int .i64 0)).toArray 3 (0, 0)) := by
  rw [lit0]
  congr 2
  apply Array.ext'
  rw [toList_madeCells_one]
theorem row_cells {w : World} {base g n : Nat} {xs : List Value} (hg : w.heap[g]? = some (.cells xs.toArray 3 (0, 0))) (hb : base ≤ g) (hn : xs.length = n) (hm : n ≤ maxLen) : w.ownsRow base 3 1 (.slice (some ⟨g, 0, none⟩) n n) n xs :=
  ⟨by simpa using hn, .inr ⟨g, n, xs.toArray, rfl, hb, hg, Nat.le_refl _, hm, by simpa using hn, by rw [Nat.mul_one]; exact List.take_of_length_le (by simp; omega)⟩⟩

/-- reslicing among the operations that are taken first: the value -/
theorem step_hdSliceV {P : Program} {ops : Array Oper} {o : Oper} {a : Act} {C : World → Prop} {b : Bool} {K : Act → Prop} {E0 : Prop} {sz : Nat} {t e : TypeId} {bytes : Nat} (E : ElemOK P t e sz bytes) (ad : Option Addr) (n c lo hi : Nat) (h1 : lo ≤ hi) (h2 : hi ≤ c)
    (hgd : o.guard = none) (x : Operand) (low high : Option Operand) (ho : o.op = .slice t x low high none) (hx : a.eval x = .slice ad n c) (hlow : (low.map a.eval).getD (.int .i64 0) = .int .i64 lo) (hhigh : (high.map a.eval).getD (.int .i64 n) = .int .i64 hi)
    (h : K (a.put o.dst (.slice (if c = lo then ad else ad.map (·.add (lo * sz))) (hi - lo) (c - lo)))) :
    if Region.wanted o (yielded ops a.tmps) = true then Oper.still1 P o a C b K else E0 := by
  have hw : Region.wanted o (yielded ops a.tmps) = true := by simp [Region.wanted, hgd]
  rw [if_pos hw]
  obtain ⟨ht, ⟨i, z, hi', hz, hsize, hby, hzs⟩, hsz⟩ := E
  have hu : ∀ W', (underlying t).run P W' = .ok (.slice e) W' := fun W' => run_underlying ht W'
  have hs : ∀ W', (sizeOf e).run P W' = .ok sz W' := fun W' => by simp [sizeOf, typeInfo, hi', hsize]
  refine ⟨_, fun w _ => ?_, h⟩
  unfold execOp
  rcases low with _ | lw
  · simp only [Option.map_none, Option.getD_none, Value.int.injEq, true_and] at hlow
    obtain rfl : lo = 0 := by omega
    rcases high with _ | hg
    · simp only [Option.map_none, Option.getD_none, Value.int.injEq, true_and] at hhigh
      obtain rfl : hi = n := by omega
      simp [ho, hx, Instr.sliceAt, Instr.slice, Instr.sliceBounds, Instr.sliceBound, hu, hs, asIntOf, h2]
    · simp only [Option.map_some, Option.getD_some] at hhigh
      simp [ho, hx, hhigh, Instr.sliceAt, Instr.slice, Instr.sliceBounds, Instr.sliceBound, hu, hs, asIntOf, h2]
  · simp only [Option.map_some, Option.getD_some] at hlow
    rcases high with _ | hg
    · simp only [Option.map_none, Option.getD_none, Value.int.injEq, true_and] at hhigh
      obtain rfl : hi = n := by omega
      simp [ho, hx, hlow, Instr.sliceAt, Instr.slice, Instr.sliceBounds, Instr.sliceBound, hu, hs, asIntOf, h1]
    · simp only [Option.map_some, Option.getD_some] at hhigh
      simp [ho, hx, hlow, hhigh, Instr.sliceAt, Instr.slice, Instr.sliceBounds, Instr.sliceBound, hu, hs, asIntOf, h1, h2]

/-- the row as it is filled: so many are laid -/
def repL (M k : Nat) : List Value := List.replicate k (.int .i64 (-1)) ++ List.replicate (M - k) (.int .i64 0)
theorem repL_len {M k : Nat} (h : k ≤ M) : (repL M k).length = M := by simp [repL]; omega
theorem repL_zero (M : Nat) : repL M 0 = List.replicate M (.int .i64 0) := by simp [repL]
theorem repL_full (M : Nat) : repL M M = List.replicate M (.int .i64 (-1)) := by simp [repL]
theorem repL_splice {M k m : Nat} (h : k + m ≤ M) : splice (repL M k) k (List.replicate m (.int .i64 (-1))) = repL M (k + m) := by
  unfold splice repL
  rw [List.take_append_of_le_length (by simp), List.take_of_length_le (by simp), List.length_replicate, List.drop_append]
  rw [List.drop_of_length_le (by simp), List.nil_append, List.drop_replicate, List.length_replicate, ← List.append_assoc, List.replicate_append_replicate]
  congr 2
  omega
theorem repL_get {M k j : Nat} (h : j < k) : (repL M k)[j]? = some (.int .i64 (-1)) := by
  unfold repL
  rw [List.getElem?_append_left (by simpa using h), List.getElem?_replicate, if_pos h]

set_option maxRecDepth 100000 in
set_option maxHeartbeats 2000000 in
theorem rep_none (w : World) (g0 M : Nat) (hg0 : w.heap[g0]? = some (.cells #[.int .i64 (-1)] 3 (0, 0))) (hM : M ≤ 1000000) :
    Calls Tryz.prog 49 #[.slice (some ⟨g0, 0, none⟩) 1 1, .int .i64 M] w fun e w' => ∃ v, e = .returned v ∧ w'.ownsRow w.heap.size 3 1 v M (List.replicate M (.int .i64 (-1))) ∧ Below w.heap.size w w' := by
  have hmk := mk_ints M hM
  have CM := Lib.hid (fun W => Tryz.bits_Mul 1 M (by omega) (by omega) W)
  have e1 : 1 * M / 18446744073709551616 = 0 := by omega
  have e2 : 1 * M % 18446744073709551616 = M := by omega
  rw [e1, e2] at CM
  have HC := Lib.hid (cells_ints w M)
  have hgl : g0 < w.heap.size := (Array.getElem?_eq_some_iff.1 hg0).1
  have hc0 : (w.alloc (.cells (madeCells #[.int .i64 0] M) 3)).cell? ⟨g0, 0, none⟩ = some (.int .i64 (-1)) := by
    have h9 := (Below.heap_alloc w (.cells (madeCells #[.int .i64 0] M) 3) _ hgl).trans hg0
    simp [World.cell?, h9]
  have HC0 := Lib.hid hc0
  have d0 : decide ((M : Int) < 0) = false := by simp
  have d3 : decide ((M : Int) > 9223372036854775807) = false := by simp; omega
  have d4 : decide ((9223372036854775807 : Int) < (M : Int)) = false := by simp; omega
  have d5 : decide (9223372036854775807 < M) = false := by simp; omega
  clear e1 e2 hg0 hc0
  go_enter Tryz.func49, Tryz.ntmps49
  go_wp2_with fail
  refine (CM.out w).mono ?_
  rintro e w' ⟨rfl, ew'⟩
  subst ew'
  go_upto_region 7 with fail
  obtain ⟨w1, ew1⟩ : ∃ w1, w1 = w'.alloc (.cells (madeCells #[.int .i64 0] M) 3) := ⟨_, rfl⟩
  obtain ⟨g, hg⟩ : ∃ g, g = w'.heap.size := ⟨_, rfl⟩
  have hb1 : Below w'.heap.size w' w1 := by rw [ew1]; exact (Below.refl _ _).alloc (Nat.le_refl _) _
  have hgg : w'.heap.size ≤ g := Nat.le_of_eq hg.symm
  have hx1 : w1.heap[g]? = some (.cells (repL M 0).toArray 3 (0, 0)) := by rw [ew1, hg, repL_zero]; exact HC.out
  have HC1 : Hid (w1.cell? ⟨g0, 0, none⟩ = some (.int .i64 (-1))) := by rw [ew1]; exact HC0.out
  have hne : g0 ≠ g := by omega
  rw [← ew1, ← hg]
  have HX1 := Lib.hid hx1
  have HB1 := Lib.hid hb1
  clear ew1 hmk HC HC0 CM hx1 hb1 hg d0 d3 d4 d5
  obtain ⟨m, hm⟩ : ∃ m, m = Nat.min 1 M := ⟨_, rfl⟩
  have HMM := Lib.hid hm
  have hm1 : m ≤ M := by rw [hm]; exact Nat.min_le_right _ _
  have hmp : 0 < M → 0 < m := fun h => by rw [hm]; exact Nat.lt_min.2 ⟨by omega, h⟩
  have HMP := Lib.hid hmp
  clear hm hmp
  have ht : ∀ j v, (List.replicate m (Value.int .i64 (-1)))[j]? = some v → w1.cell? ((⟨g0, 0, none⟩ : Addr).add j) = some v := fun j v h => by
    rw [List.getElem?_replicate] at h
    split at h
    · rename_i hj
      injection h with h
      have : j = 0 := by have h8 := HMM.out; have h9 : Nat.min 1 M ≤ 1 := Nat.min_le_left _ _; omega
      subst this
      rw [← h]
      simpa [Addr.add] using HC1.out
    · cases h
  have HTT := Lib.hid ht
  clear ht
  go_wp2_with (refine wpList_copy_splice rfl _ _ _ _ rfl 3 Tryz.underlying88 size_int _ _ _ _ _ _ rfl rfl g 0 (repL M 0) 3 HX1.out (List.replicate m (.int .i64 (-1))) (by rw [List.length_replicate]; exact HMM.out) (fun _ => ⟨rfl, _, rfl, HTT.out⟩) (by rw [List.length_replicate, repL_len (by omega)]; omega) (fun v hv => by rw [List.eq_of_mem_replicate hv]; rfl) w'.heap.size w' HB1.out hgg ?_; intro w2 hg2 hb2; simp only [List.length_replicate, goInt]; rw [repL_splice (M := M) (k := 0) (m := m) (by omega), Nat.zero_add] at hg2; have HB2 := Lib.hid hb2; clear hb2)
  clear HX1 HB1 HTT HC1
  go_loopg [8] M (fun kx s8 wr => ∃ k : Nat, s8 = .int .i64 k ∧ k ≤ M ∧ M - k ≤ kx ∧ Hid (0 < M → 0 < k) ∧ Hid (wr.heap[g]? = some (.cells (repL M k).toArray 3 (0, 0))) ∧ Hid (Below w'.heap.size w' wr))
  case atStart => exact ⟨m, rfl, hm1, by omega, HMP, hg2, HB2⟩
  case round =>
    obtain ⟨k, rfl, hk, hkx, HP, HG, HB⟩ := hrel
    by_cases hlt : k < M
    · have hkp := HP.out (by omega)
      obtain ⟨m2, hm2⟩ : ∃ m2, m2 = Nat.min k (M - k) := ⟨_, rfl⟩
      have hm2a : k + m2 ≤ M := by have h9 : Nat.min k (M - k) ≤ M - k := Nat.min_le_right _ _; omega
      have hm2b : 0 < m2 := by rw [hm2]; exact Nat.lt_min.2 ⟨hkp, by omega⟩
      have hm2c : m2 ≤ k := by rw [hm2]; exact Nat.min_le_left _ _
      have HM2 := Lib.hid hm2
      have HT2 : Hid (∀ W : World, W.heap[g]? = some (.cells (repL M k).toArray 3 (0, 0)) → ∀ j v, (List.replicate m2 (Value.int .i64 (-1)))[j]? = some v → W.cell? ((⟨g, 0, none⟩ : Addr).add j) = some v) := fun W hW j v h => by
        rw [List.getElem?_replicate] at h
        split at h
        · rename_i hj
          have h9 := repL_get (M := M) (k := k) (j := j) (by omega)
          rw [← h]
          have hadd : (⟨g, 0, none⟩ : Addr).add j = ⟨g, j, none⟩ := by unfold Addr.add; split <;> simp_all
          rw [hadd]
          simp [World.cell?, hW, h9]
        · cases h
      clear hm2
      have e1 : decide ((k : Int) < (M : Int)) = true := by simp; omega
      have e2 : decide (k < M) = true := by simp; omega
      go_upto_region 9 with fail
      refine wp_region_head (fun _ => True) [7, 8, 9] [(0, false), (1, false), (2, false), (3, false), (4, false), (5, false), (6, false)] (by kernel_rfl) (by kernel_rfl) (fun _ _ d _ _ h => by cases d <;> exact h) trivial 3 rfl (by kernel_rfl) ?_
      simp only [pickB, List.filterMap_cons, List.filterMap_nil, List.getElem?_toArray, List.getElem?_cons_succ, List.getElem?_cons_zero, Option.map_some]
      iterate 3 (refine wpHd_step (fun K hK => ?_); go_simp; first | (refine hK _ ?_; clear hK K) | (apply Exists.intro; refine ⟨fun _ => ?_, hK _ ?_⟩; rfl; clear hK K))
      refine wpHd_step (fun K hK => ?_)
      refine step_hdSliceV elInt (some ⟨g, 0, none⟩) M M k M (by omega) (Nat.le_refl _) rfl _ _ _ rfl rfl rfl rfl (hK _ ?_)
      clear hK K
      rw [if_neg (by omega)]
      iterate 2 (refine wpHd_step (fun K hK => ?_); go_simp; first | (refine hK _ ?_; clear hK K) | (apply Exists.intro; refine ⟨fun _ => ?_, hK _ ?_⟩; rfl; clear hK K))
      refine wpHd_step (fun K hK => ?_)
      refine step_hdSliceV elInt (some ⟨g, 0, none⟩) M M 0 k (by omega) (by omega) rfl _ _ _ rfl rfl rfl rfl (hK _ ?_)
      clear hK K
      rw [if_neg (by omega)]
      refine wpHd_nil ?_
      refine wpAnyT_ready [7] (by kernel_rfl) (by simp) ?_
      refine AllReadyT.cons rfl (fun K hK => ?_) AllReadyT.nil
      have hgd : wr.drew.heap[g]? = some (.cells (repL M k).toArray 3 (0, 0)) := HG.out
      have hbd : Below w'.heap.size w' wr.drew := HB.out.drew
      refine step_copy_splice rfl _ _ _ _ rfl 3 Tryz.underlying88 size_int (some ⟨g, k, none⟩) (some ⟨g, 0, none⟩) (M - k) (M - k) k M (by simp [Act.eval, Act.put, Addr.add]) (by simp [Act.eval, Act.put, Addr.add]) g k (repL M k) 3 hgd (List.replicate m2 (.int .i64 (-1))) (by rw [List.length_replicate]; exact HM2.out) (fun _ => ⟨rfl, _, rfl, HT2.out _ hgd⟩) (by rw [List.length_replicate, repL_len (by omega)]; omega) (fun v hv => by rw [List.eq_of_mem_replicate hv]; rfl) w'.heap.size w' hbd hgg ?_
      intro w3 hg3 hb3
      simp only [List.length_replicate, goInt]
      rw [repL_splice (M := M) (k := k) (m := m2) (by omega)] at hg3
      have HG3 := hg3
      have HB3 := Lib.hid hb3
      clear hb3 hgd hbd
      refine hK _ _ (fun _ h => absurd (by simp) h) ?_
      clear hK K
      refine wpAnyT_line [8, 9] _ _ _ (by kernel_rfl) ?_
      simp only [pick, List.filterMap_cons, List.filterMap_nil, List.getElem?_toArray, List.getElem?_cons_succ, List.getElem?_cons_zero]
      go_wp2
      go_roundg (M - (k + m2))
      case measure => omega
      case rel => exact ⟨k + m2, by go_num, by omega, Nat.le_refl _, fun _ => by omega, HG3, HB3⟩
    · obtain rfl : k = M := by omega
      have HFIN : Hid (wr.ownsRow w'.heap.size 3 1 (.slice (some ⟨g, 0, none⟩) k k) k (List.replicate k (.int .i64 (-1)))) := by
        have := HG.out
        rw [repL_full] at this
        exact row_cells this hgg (by simp) (by unfold maxLen; omega)
      go_wp2
      go_ret
      exact ⟨_, rfl, HFIN.out, HB.out⟩
end Go.Proofs.YtggfdlanobndjaaGreat
