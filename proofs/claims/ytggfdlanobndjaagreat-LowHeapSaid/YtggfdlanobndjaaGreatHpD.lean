/- heap.Drop. -/
import Derived.Test.YtggfdlanobndjaaGreatHpE
import Derived.Test.YtggfdlanobndjaaGreatQ6
import Derived.Deep.CutBlock
import Derived.Deep.CutRange
import Derived.Deep.LoopGhost
namespace Go.Proofs.YtggfdlanobndjaaGreat
open Go.RowKit Go.Sort Go.Shelf Go.Lib Go.Maps
attribute [local irreducible] wpQuiet
attribute [local go_sem] Oper.still1
set_option linter.unusedSimpArgs false
set_option linter.unusedVariables false

theorem pull_step {lb : Nat → Nat → Bool} {N : List Nd} {t : FT} {s : Nat} {h : Hld} (ha : FT.At N t s) :
    (lesK lb h t s = -1 ∧ pullH lb t s h = updH h (t.root s) none) ∨
    ∃ t2 s2 i, lesK lb h t s = ((t2.root s2 : Nat) : Int) ∧ FT.At N t2 s2 ∧ t2.size < t.size ∧ h (t2.root s2) = some i ∧ pullH lb t s h = pullH lb t2 s2 (updH h (t.root s) (some i)) := by
  cases t with
  | leaf a => exact .inl ⟨rfl, rfl⟩
  | node l r =>
    have hsz : (FT.node l r).size = l.size + r.size + 1 := rfl
    have pl := l.size_pos
    have pr := r.size_pos
    cases e1 : h (l.root s) with
    | none =>
      cases e2 : h (r.root (s + l.size)) with
      | none => left; simp only [lesK, pullH]; rw [e1, e2]; exact ⟨rfl, rfl⟩
      | some j => right; refine ⟨r, s + l.size, j, ?_, ha.right, by omega, e2, ?_⟩ <;> simp only [lesK, pullH] <;> rw [e1, e2]
    | some i =>
      cases e2 : h (r.root (s + l.size)) with
      | none => right; refine ⟨l, s, i, ?_, ha.left, by omega, e1, ?_⟩ <;> simp only [lesK, pullH] <;> rw [e1, e2]
      | some j =>
        right
        cases hb : lb i j with
        | true => refine ⟨l, s, i, ?_, ha.left, by omega, e1, ?_⟩ <;> simp only [lesK, pullH] <;> rw [e1, e2] <;> simp [hb]
        | false => refine ⟨r, s + l.size, j, ?_, ha.right, by omega, e2, ?_⟩ <;> simp only [lesK, pullH] <;> rw [e1, e2] <;> simp [hb]

theorem ent_hdrop1 : ∀ args w, (callFunc 56 args).run Tryz.prog w = .ok (.enter 56 args) w := enters_of Tryz.func56 (by kernel_rfl) rfl

set_option maxRecDepth 100000 in
/-- does a node hold the place? -/
theorem heap_drop1 {w : World} {lo hi tb fb : Nat} {R : List Pt} {h : Hld} {cnt : Int} {V : HepV} (H : HptAt w lo hi tb fb R h cnt V) (tc ac x k : Nat) (htc : w.cell? ⟨tc, 0, none⟩ = some (.pointer (some ⟨tb, 0, none⟩))) (hac : w.cell? ⟨ac, 0, none⟩ = some (.int .i64 x)) (hk : k < (nds R.length).length) (hR : R.length ≤ 20000) :
    Calls Tryz.prog 56 #[.int .i64 k, .pointer (some ⟨tc, 0, none⟩), .pointer (some ⟨ac, 0, none⟩)] w fun e w' => e = .returned (.bool (decide (h k = some x))) ∧ Below w.heap.size w w' := by
  have h0 : 0 < R.length := by have := nds_len R.length; omega
  have hM : (nds R.length).length ≤ 40000 := by rw [nds_len]; omega
  obtain ⟨gh, ch, ehv, -, -, -, -, hghl, hcs, -⟩ := H.holds h0
  have hb' := H.blk
  rw [ehv] at hb'
  have c4 : w.cell? ⟨tb, 4, none⟩ = some (.slice (some ⟨gh, 0, none⟩) (nds R.length).length ch) := by simp [World.cell?, hb']
  have e0 := (hcs k hk).1
  have hdd : decide (h k = some x) = decide (eHo (h k) = (x : Int)) := by rw [decide_eq_decide, eHo_inj]
  rw [hdd]
  have HB : Hid (∀ n, Below w.heap.size w (w.drewN n)) := fun n => Below.drewAny _ _
  clear hcs hb' ehv H hdd
  generalize (nds R.length).length = M at *
  generalize eHo (h k) = v at *
  go_enter Tryz.func56, Tryz.ntmps56
  go_upto_region 1 with fail
  by_cases hv : v = x
  · have d1 : (v == (x : Int)) = true := by simp [hv]
    have d2 : decide (v = (x : Int)) = true := by simp [hv]
    clear hv
    go_quiet (fail)
    go_wp2
    go_ret
    rw [d2]
    exact ⟨rfl, HB.out _⟩
  · have d1 : (v == (x : Int)) = false := by simp [hv]
    have d2 : decide (v = (x : Int)) = false := by simp [hv]
    clear hv
    go_quiet (fail)
    go_wp2
    go_ret
    rw [d2]
    exact ⟨rfl, HB.out _⟩

def IdxP (w : World) (h : Hld) (x : Nat) (P : List Nat) (e : Ending) (w' : World) : Prop :=
  ∃ r : Int, e = .returned (.int .i64 r) ∧ Below w.heap.size w w' ∧ ((r = -1 ∧ ∀ k ∈ P, h k ≠ some x) ∨ ∃ j k : Nat, r = j ∧ P[j]? = some k ∧ h k = some x ∧ ∀ i < j, ∀ k', P[i]? = some k' → h k' ≠ some x)

set_option maxRecDepth 100000 in
set_option maxHeartbeats 1000000 in
theorem heap_idx {w : World} {lo hi tb fb : Nat} {R : List Pt} {h : Hld} {cnt : Int} {V : HepV} (H : HptAt w lo hi tb fb R h cnt V) (hR : R.length ≤ 20000) (tc ac x : Nat) (htc : w.cell? ⟨tc, 0, none⟩ = some (.pointer (some ⟨tb, 0, none⟩))) (hac : w.cell? ⟨ac, 0, none⟩ = some (.int .i64 x))
    (P : List Nat) (hP : ∀ k ∈ P, k < (nds R.length).length) (pa : Option Addr) (pc : Nat) (hp : Rd eNat w pa P) (hlen : P.length ≤ 40000) :
    Calls Tryz.prog 55 #[.slice pa P.length pc, .func (.func 56) #[] #[.pointer (some ⟨tc, 0, none⟩), .pointer (some ⟨ac, 0, none⟩)]] w (IdxP w h x P) := by
  have htl := World.block_lt_of_cell? w _ htc
  have hal := World.block_lt_of_cell? w _ hac
  simp only at htl hal
  have HC : Hid (∀ W k, Below w.heap.size w W → k ∈ P → Calls Tryz.prog 56 #[.int .i64 k, .pointer (some ⟨tc, 0, none⟩), .pointer (some ⟨ac, 0, none⟩)] W fun e w' => e = .returned (.bool (decide (h k = some x))) ∧ Below W.heap.size W w') := fun W k hb hk =>
    heap_drop1 (H.below hb H.tbr.2.2.2.2) tc ac x k ((hb.cell (p := ⟨tc, 0, none⟩) htl).trans htc) ((hb.cell (p := ⟨ac, 0, none⟩) hal).trans hac) (hP k hk) hR
  have HP := Lib.hid hp
  have eg := ent_hdrop1
  clear H hp hP htc hac
  unfold IdxP
  obtain ⟨n, hn⟩ : ∃ n, n = P.length := ⟨_, rfl⟩
  have HN := Lib.hid hn
  rw [← hn] at hlen ⊢
  clear hn
  go_enter Tryz.func55, Tryz.ntmps55
  go_wp2
  go_loopg [8] n (fun kx s8 wr => ∃ j : Nat, s8 = .int .i64 j ∧ j ≤ n ∧ n - j ≤ kx ∧ Hid (Below w.heap.size w wr) ∧ Hid (∀ i < j, ∀ k', P[i]? = some k' → h k' ≠ some x))
  case atStart => exact ⟨0, rfl, Nat.zero_le _, by omega, Below.refl _ _, fun i hi => absurd hi (Nat.not_lt_zero _)⟩
  case round =>
    obtain ⟨j, rfl, hj, hkx, HBw, HF⟩ := hrel
    by_cases hlt : j < n
    · have hjl : j < P.length := by have := HN.out; omega
      obtain ⟨b, off, ea, hbl, hcs⟩ := (HP.out.below HBw.out).get (by omega)
      have x0 := hcs j hjl
      simp only [eNat] at x0
      have HK := Lib.hid (HC.out wr P[j] HBw.out (List.getElem_mem hjl))
      have HG : Hid (P[j]? = some P[j]) := List.getElem?_eq_getElem hjl
      have EA := Lib.hid ea
      clear hcs ea
      generalize P[j] = k at *
      obtain rfl := EA.out
      clear EA hjl
      by_cases hh : h k = some x
      · have hd : decide (h k = some x) = true := by simp [hh]
        rw [hd] at HK
        have HH := Lib.hid hh
        clear hd hh
        go_wp2_with (go_at_fn 56; refine HK.out.mono ?_; rintro e w' ⟨rfl, hb'⟩)
        go_ret
        exact ⟨_, rfl, HBw.out.trans (hb'.mono HBw.out.size), .inr ⟨j, k, rfl, HG.out, HH.out, HF.out⟩⟩
      · have hd : decide (h k = some x) = false := by simp [hh]
        rw [hd] at HK
        have HH := Lib.hid hh
        clear hd hh
        go_wp2_with (go_at_fn 56; refine HK.out.mono ?_; rintro e w' ⟨rfl, hb'⟩)
        go_roundg (n - (j + 1))
        case measure => omega
        case rel =>
          refine ⟨j + 1, by go_num, by omega, Nat.le_refl _, HBw.out.trans (hb'.mono HBw.out.size), fun i hi k' hk' => ?_⟩
          by_cases e : i = j
          · subst e
            have := HG.out
            rw [hk'] at this
            injection this with this
            rw [this]; exact HH.out
          · exact HF.out i (by omega) k' hk'
    · obtain rfl : j = n := by omega
      have HFIN : Hid (∀ k ∈ P, h k ≠ some x) := fun k hk => by
        obtain ⟨i, hi, rfl⟩ := List.getElem_of_mem hk
        exact HF.out i (by have := HN.out; omega) _ (List.getElem?_eq_getElem hi)
      go_wp2
      go_ret
      exact ⟨_, rfl, HBw.out, .inl ⟨rfl, HFIN.out⟩⟩

theorem ent_bsfX : ∀ args w, (callFunc 53 args).run Tryz.prog w = .ok (.enter 53 args) w := enters_of Tryz.func53 (by kernel_rfl) rfl
theorem ent_path : ∀ args w, (callFunc 54 args).run Tryz.prog w = .ok (.enter 54 args) w := enters_of Tryz.func54 (by kernel_rfl) rfl

/-- the blocks of Drop's own variables: the tree, the point -/
def dropW (w : World) (tb : Nat) (px py pi : Int) : World := (w.alloc (.cells #[.pointer (some ⟨tb, 0, none⟩)] 25)).alloc (.cells #[.int .i64 px, .int .i64 py, .int .u32 pi] 34)
theorem dropW_facts (w : World) (tb : Nat) (px py pi : Int) : Below w.heap.size w (dropW w tb px py pi) ∧ (dropW w tb px py pi).heap[w.heap.size]? = some (.cells #[.pointer (some ⟨tb, 0, none⟩)] 25 (0, 0)) ∧ (dropW w tb px py pi).heap[w.heap.size + 1]? = some (.cells #[.int .i64 px, .int .i64 py, .int .u32 pi] 34 (0, 0)) ∧ (dropW w tb px py pi).heap.size = w.heap.size + 2 :=
  ⟨((Below.refl _ _).alloc (Nat.le_refl _) _).alloc (by simp) _, lit1 w _ _, lit2 w _ _, by simp [dropW]⟩

set_option maxRecDepth 100000 in
set_option maxHeartbeats 4000000 in
/-- no such point in the row -/
theorem heap_drop_miss {w : World} {lo hi tb fb : Nat} {R : List Pt} {h : Hld} {cnt : Int} {V : HepV} (hA : HptAt w lo hi tb fb R h cnt V) (hX : R.Pairwise ltX) (hR : R.length ≤ 20000) (p : Pt) (hno : ∀ x (h : x < R.length), R[x] ≠ p) :
    Calls Tryz.prog 21 #[.pointer (some ⟨tb, 0, none⟩), vPt p.1 p.2.1 p.2.2] w fun e w' => e = .returned (.bool false) ∧ Below w.heap.size w w' := by
  have hb := hA.blk
  have htl := hA.tbl
  obtain ⟨ra, rc, er, -, -, hrd⟩ := RdK.of_owns ePt_len (by decide) hA.row
  rw [er] at hb
  have CB := Lib.hid (fun W (hb : Below w.heap.size w W) => bsfX1 ra R R.length rc p W rfl (by omega) (hrd.below hb) hX)
  have HRD := Lib.hid hrd
  have HNO := Lib.hid hno
  obtain ⟨px, py, pi⟩ := p
  obtain ⟨hb1, ht1, hp1, hs1⟩ := dropW_facts w tb px py pi
  obtain ⟨w1, ew1⟩ : ∃ w1, w1 = dropW w tb px py pi := ⟨_, rfl⟩
  rw [← ew1] at hb1 ht1 hp1 hs1
  unfold dropW at ew1
  have hh1 := (hb1.block tb htl).trans hb
  have c0 : w1.cell? ⟨tb, 0, none⟩ = some (.slice ra R.length rc) := by simp [World.cell?, hh1]
  have t0 : w1.cell? ⟨w.heap.size, 0, none⟩ = some (.pointer (some ⟨tb, 0, none⟩)) := by simp [World.cell?, ht1]
  have p0 : w1.cell? ⟨w.heap.size + 1, 0, none⟩ = some (.int .i64 px) := by simp [World.cell?, hp1]
  have p1 : w1.cell? ⟨w.heap.size + 1, 1, none⟩ = some (.int .i64 py) := by simp [World.cell?, hp1]
  have p2 : w1.cell? ⟨w.heap.size + 1, 2, none⟩ = some (.int .u32 pi) := by simp [World.cell?, hp1]
  obtain ⟨n, hn⟩ : ∃ n, n = R.length := ⟨_, rfl⟩
  rw [← hn] at hR c0 CB
  have HN := Lib.hid hn
  have HB1 := Lib.hid hb1
  have htl1 : tb < w1.heap.size := by omega
  have htc1 : w.heap.size < w1.heap.size := by omega
  have hpc1 : w.heap.size + 1 < w1.heap.size := by omega
  clear hA hrd hno hb er hn hb1 ht1 hp1 hh1 hs1
  go_enter Tryz.func21, Tryz.ntmps21
  go_upto_region 1 with fail
  rw [← ew1]
  clear ew1
  by_cases h0 : n = 0
  · have d0 : ((n : Int) == 0) = true := by simp [h0]
    have d1 : (n == 0) = true := by simp [h0]
    have d2 : decide (n = 0) = true := by simp [h0]
    clear h0 CB
    go_wp2
    go_ret
    exact ⟨rfl, HB1.out⟩
  · have d0 : ((n : Int) == 0) = false := by simp [h0]
    have d1 : (n == 0) = false := by simp [h0]
    have d2 : decide (n = 0) = false := by simp [h0]
    have hn0 : 0 < n := by omega
    clear h0
    go_upto_region 3 with fail
    have HC3 : Hid (∀ b : BelowW w1, Calls Tryz.prog 53 #[.slice ra n rc, vPt px py pi, .func (.func 45) #[] #[]] b.W fun e w' => e = .returned (.tuple #[.int .i64 (posX R (px, py, pi)), .bool (fndX R (px, py, pi))]) ∧ Below b.W.heap.size b.W w') := fun b => CB.out b.W (HB1.out.trans (b.h.mono HB1.out.size))
    obtain ⟨k, hk⟩ : ∃ k, k = posX R (px, py, pi) := ⟨_, rfl⟩
    obtain ⟨f, hf⟩ : ∃ f, f = fndX R (px, py, pi) := ⟨_, rfl⟩
    rw [← hk, ← hf] at HC3
    have HKF : Hid (k = posX R (px, py, pi) ∧ f = fndX R (px, py, pi)) := ⟨hk, hf⟩
    clear hk hf CB
    go_cut [5, 6] from 5 (fun v5 v6 wx => ∃ ab : Nat, v5 = .pointer (some ⟨ab, 0, none⟩) ∧ v6 = .bool f ∧ Hid (Below w1.heap.size w1 wx) ∧ Hid (wx.heap[ab]? = some (.cells #[.int .i64 (k : Nat)] 3 (0, 0))))
    case first =>
      have g0 := cell_belowW c0
      have g1 := cell_belowW t0
      have g2 := cell_belowW p0
      have g3 := cell_belowW p1
      have g4 := cell_belowW p2
      refine wp_region_head (fun W => ∃ p : BelowW w1, W = p.W) [11] [(0, true), (1, false), (2, false), (3, true), (4, true)] (by kernel_rfl) (by kernel_rfl) (fun _ _ d _ _ h => by cases d <;> exact h) ⟨⟨_, (Below.refl _ _).drew⟩, rfl⟩ 7 rfl (by kernel_rfl) ?_
      simp only [pickB, List.filterMap_cons, List.filterMap_nil, List.getElem?_toArray, List.getElem?_cons_succ, List.getElem?_cons_zero, Option.map_some]
      repeat (refine wpHd_step (fun K hK => ?_); go_simp; first | (refine hK _ ?_; clear hK K) | (apply Exists.intro; refine ⟨fun _ => ?_, hK _ ?_⟩; rfl; clear hK K))
      refine wpHd_nil ?_
      have hbd : Below w1.heap.size w1 w1.drew := (Below.refl _ _).drew
      refine wpAnyT_ready [5, 9] (by kernel_rfl) (by simp) ?_
      refine AllReadyT.cons rfl (fun K hK => ?_) (AllReadyT.cons rfl (fun K hK => ?_) AllReadyT.nil)
      · refine step_call ent_bsfX rfl _ _ rfl (vals := #[.slice ra n rc, vPt px py pi, .func (.func 45) #[] #[]]) rfl (HC3.out ⟨w1.drew, hbd⟩) ?_
        rintro e w3 ⟨rfl, hb3⟩
        have hb13 : Below w1.heap.size w1 w3 := hbd.trans hb3
        refine ⟨_, rfl, hK _ _ (fun _ _ => ⟨⟨_, hb13⟩, rfl⟩) ?_⟩
        clear hK K
        refine wpAnyT_next [(6, false), (7, false), (8, false)] (by kernel_rfl) (fun _ _ d _ _ h => by cases d <;> exact h) ⟨⟨_, hb13⟩, rfl⟩ (by kernel_rfl) (by kernel_rfl) rfl ?_
        simp only [pickB, List.filterMap_cons, List.filterMap_nil, List.getElem?_toArray, List.getElem?_cons_succ, List.getElem?_cons_zero, Option.map_some]
        repeat (refine wpHd_step (fun K hK => ?_); go_simp; first | (refine hK _ ?_; clear hK K) | (apply Exists.intro; refine ⟨fun _ => ?_, hK _ ?_⟩; rfl; clear hK K))
        refine wpHd_nil ?_
        have HBX : Hid (Below w1.heap.size w1 (w3.alloc (.cells #[.int .i64 (k : Nat)] 3))) := hb13.alloc hb13.size _
        have HLX := Lib.hid (lit0 w3 (.cells #[.int .i64 (k : Nat)] 3))
        refine wpAnyT_ready [9] (by kernel_rfl) (by simp) ?_
        refine AllReadyT.cons rfl (fun K hK => ?_) AllReadyT.nil
        go_simp
        refine hK _ _ (fun _ _ => ⟨⟨_, hb13.alloc hb13.size _⟩, rfl⟩) ?_
        clear hK K
        refine wpAnyT_ready [10] (by kernel_rfl) (by simp) ?_
        refine AllReadyT.cons rfl (fun K hK => ?_) AllReadyT.nil
        go_simp
        refine hK _ _ (fun _ _ => ⟨⟨_, HBX.out⟩, rfl⟩) ?_
        clear hK K
        refine wpAnyT_line [11] _ _ _ (by kernel_rfl) ?_
        simp only [pick, List.filterMap_cons, List.filterMap_nil, List.getElem?_toArray, List.getElem?_cons_succ, List.getElem?_cons_zero]
        clear hb13 hb3
        go_wp2
        go_meet
        exact ⟨_, rfl, rfl, HBX.out, HLX.out⟩
      · obtain ⟨w2, ew2⟩ : ∃ w2, w2 = (w1.alloc (.cells #[.int .i64 0] 3)).drew := ⟨_, rfl⟩
        have hb2 : Below w1.heap.size w1 w2 := by rw [ew2]; exact ((Below.refl _ _).alloc (Nat.le_refl _) _).drew
        have hx2 : w2.heap[w1.heap.size]? = some (.cells #[.int .i64 0] 3 (0, 0)) := by rw [ew2]; exact lit0 w1 _
        go_simp
        rw [← ew2]
        clear ew2
        refine hK _ _ (fun _ _ => ⟨⟨_, hb2⟩, rfl⟩) ?_
        clear hK K
        refine wpAnyT_ready [5] (by kernel_rfl) (by simp) ?_
        refine AllReadyT.cons rfl (fun K hK => ?_) AllReadyT.nil
        refine step_call ent_bsfX rfl _ _ rfl (vals := #[.slice ra n rc, vPt px py pi, .func (.func 45) #[] #[]]) rfl (HC3.out ⟨w2, hb2⟩) ?_
        rintro e w3 ⟨rfl, hb3⟩
        have hb13 : Below w1.heap.size w1 w3 := hb2.trans (hb3.mono hb2.size)
        have hx3 := (hb3.block _ (Array.getElem?_eq_some_iff.1 hx2).1).trans hx2
        refine ⟨_, rfl, hK _ _ (fun _ _ => ⟨⟨_, hb13⟩, rfl⟩) ?_⟩
        clear hK K
        refine wpAnyT_next [(6, false), (7, false), (8, false)] (by kernel_rfl) (fun _ _ d _ _ h => by cases d <;> exact h) ⟨⟨_, hb13⟩, rfl⟩ (by kernel_rfl) (by kernel_rfl) rfl ?_
        simp only [pickB, List.filterMap_cons, List.filterMap_nil, List.getElem?_toArray, List.getElem?_cons_succ, List.getElem?_cons_zero, Option.map_some]
        repeat (refine wpHd_step (fun K hK => ?_); go_simp; first | (refine hK _ ?_; clear hK K) | (apply Exists.intro; refine ⟨fun _ => ?_, hK _ ?_⟩; rfl; clear hK K))
        refine wpHd_nil ?_
        have y0 : w3.cell? ⟨w1.heap.size, 0, none⟩ = some (.int .i64 0) := by simp [World.cell?, hx3]
        have z0 : w3.frozen? ⟨w1.heap.size, 0, none⟩ = false := by simp [World.frozen?, hx3]
        have HBX : Hid (Below w1.heap.size w1 (w3.setCell ⟨w1.heap.size, 0, none⟩ (.int .i64 (k : Nat)))) := ⟨hb13.os, hb13.tape, hb13.output, by simpa using hb13.size, fun b hb => (heap_setNe (show w1.heap.size ≠ b by omega)).trans (hb13.block b hb)⟩
        have HLX : Hid ((w3.setCell ⟨w1.heap.size, 0, none⟩ (.int .i64 (k : Nat))).heap[w1.heap.size]? = some (.cells #[.int .i64 (k : Nat)] 3 (0, 0))) := heap_setCell_same w3 _ 0 _ _ _ hx3
        refine wpAnyT_ready [10] (by kernel_rfl) (by simp) ?_
        refine AllReadyT.cons rfl (fun K hK => ?_) AllReadyT.nil
        go_simp
        refine hK _ _ (fun _ _ => ⟨⟨_, HBX.out⟩, rfl⟩) ?_
        clear hK K
        refine wpAnyT_line [11] _ _ _ (by kernel_rfl) ?_
        simp only [pick, List.filterMap_cons, List.filterMap_nil, List.getElem?_toArray, List.getElem?_cons_succ, List.getElem?_cons_zero]
        clear hb13 hb3 hb2 hx2 hx3 y0 z0
        go_wp2
        go_meet
        exact ⟨_, rfl, rfl, HBX.out, HLX.out⟩
    case rest =>
      obtain ⟨ab, rfl, rfl, HBx, HAx⟩ := hcut
      have hax := HAx.out
      have hbx := HBx.out
      have a0 : wc.cell? ⟨ab, 0, none⟩ = some (.int .i64 (k : Nat)) := by simp [World.cell?, hax]
      have c0 := (hbx.cell (p := ⟨tb, 0, none⟩) htl1).trans c0
      have t0 := (hbx.cell (p := ⟨w.heap.size, 0, none⟩) htc1).trans t0
      have p0 := (hbx.cell (p := ⟨w.heap.size + 1, 0, none⟩) hpc1).trans p0
      have p1 := (hbx.cell (p := ⟨w.heap.size + 1, 1, none⟩) hpc1).trans p1
      have p2 := (hbx.cell (p := ⟨w.heap.size + 1, 2, none⟩) hpc1).trans p2
      have HBC : Hid (Below w.heap.size w wc) := HB1.out.trans (hbx.mono HB1.out.size)
      have HFN : Hid (∀ nq, Below w.heap.size w (wc.drewN nq)) := fun nq => HBC.out.trans ((Below.drewAny _ nq).mono HBC.out.size)
      clear hax hbx
      cases f with
      | false =>
        go_upto_region 4 with fail
        go_quiet (fail)
        go_wp2
        go_ret
        exact ⟨rfl, HFN.out _⟩
      | true =>
        have hf := HKF.out.2.symm
        have hkk := HKF.out.1
        obtain ⟨hkl, ho⟩ := of_decide_eq_true hf
        rw [ordX_eq] at ho
        have hkl' : k < R.length := by rw [hkk]; exact hkl
        have ho' : R[k].1 = px ∧ R[k].2.2 = pi := by simp only [hkk]; exact ho
        have hne := HNO.out k hkl'
        have hk2 : k < n := by rw [HN.out]; exact hkl'
        obtain ⟨b, off, ea, hbb, hcs⟩ := (HRD.out.below HBC.out).get (by omega)
        have r0 := hcs k hkl' 0 (by omega)
        have r1 := hcs k hkl' 1 (by omega)
        have r2 := hcs k hkl' 2 (by omega)
        simp only [ePt, List.getElem?_cons_zero, List.getElem?_cons_succ, Nat.add_zero] at r0 r1 r2
        subst ea
        clear hcs hf hkk hkl ho
        generalize R[k] = q at *
        obtain ⟨qx, qy, qi⟩ := q
        simp only at r0 r1 r2 ho'
        obtain ⟨ho1, ho2⟩ := ho'
        subst ho1 ho2
        have hqy : qy ≠ py := fun e => hne (by rw [e])
        have d1' : (qy == py) = false := by simp [hqy]
        have d2' : decide (qy = py) = false := by simp [hqy]
        clear hne
        go_upto_region 4 with fail
        go_quiet (fail)
        go_wp2
        go_ret
        exact ⟨rfl, HFN.out _⟩

theorem held_sub {h : Hld} : ∀ {t : FT} {s : Nat}, ∀ p ∈ t.subs s, ∀ i ∈ held h p.1 p.2, i ∈ held h t s
  | .leaf a, s, p, hp, i, hi => by
    have : p = (.leaf a, s) := by simpa [FT.subs] using hp
    subst this; exact hi
  | .node l r, s, p, hp, i, hi => by
    simp only [FT.subs, List.mem_append, List.mem_singleton] at hp
    simp only [held, List.mem_append]
    rcases hp with (hp | hp) | hp
    · exact .inr (.inl (held_sub p hp i hi))
    · exact .inr (.inr (held_sub p hp i hi))
    · subst hp
      simpa only [held, List.mem_append] using hi

def DropPH (w : World) (lo hi tb fb : Nat) (R : List Pt) (h : Hld) (cnt : Int) (V : HepV) (x : Nat) (e : Ending) (w' : World) : Prop :=
  (x ∉ hld R h ∧ e = .returned (.bool false) ∧ Below w.heap.size w w') ∨ (x ∈ hld R h ∧ e = .returned (.bool true) ∧ HptAt w' lo hi tb fb R (outH R x h) (cnt - 1) V ∧ KpS (fun k => lo ≤ k ∧ k < hi) w w')

set_option maxRecDepth 100000 in
set_option maxHeartbeats 8000000 in
theorem heap_drop_at {w : World} {lo hi tb fb : Nat} {R : List Pt} {h : Hld} {cnt : Int} {V : HepV} (hA : HptAt w lo hi tb fb R h cnt V) (hW : HpWF R h) (hR : R.length ≤ 20000) (hc0 : 0 ≤ cnt) (hc1 : cnt ≤ 20000) {x : Nat} (hx : x < R.length) (p : Pt) (hp : R[x] = p) :
    Calls Tryz.prog 21 #[.pointer (some ⟨tb, 0, none⟩), vPt p.1 p.2.1 p.2.2] w (DropPH w lo hi tb fb R h cnt V x) := by
  have hb := hA.blk
  have htl := hA.tbl
  have htbr := hA.tbr
  obtain ⟨ra, rc, er, -, -, hrd⟩ := RdK.of_owns ePt_len (by decide) hA.row
  rw [er] at hb
  have CB := Lib.hid (fun W (hb : Below w.heap.size w W) => bsfX1 ra R R.length rc p W rfl (by omega) (hrd.below hb) hW.rowX)
  have hfx := fndX_at hW.rowX hx
  rw [hp] at hfx
  rw [hfx.1, hfx.2] at CB
  have HRD := Lib.hid hrd
  have hpt : ptAt R x = p := by rw [ptAt_eq hx]; exact hp
  have HP := Lib.hid hpt
  have HXR := Lib.hid hx
  have HER := Lib.hid er
  obtain ⟨px, py, pi⟩ := p
  obtain ⟨hb1, ht1, hp1, hs1⟩ := dropW_facts w tb px py pi
  obtain ⟨w1, ew1⟩ : ∃ w1, w1 = dropW w tb px py pi := ⟨_, rfl⟩
  rw [← ew1] at hb1 ht1 hp1 hs1
  unfold dropW at ew1
  have hh1 := (hb1.block tb htl).trans hb
  have c0 : w1.cell? ⟨tb, 0, none⟩ = some (.slice ra R.length rc) := by simp [World.cell?, hh1]
  have t0 : w1.cell? ⟨w.heap.size, 0, none⟩ = some (.pointer (some ⟨tb, 0, none⟩)) := by simp [World.cell?, ht1]
  have p0 : w1.cell? ⟨w.heap.size + 1, 0, none⟩ = some (.int .i64 px) := by simp [World.cell?, hp1]
  have p1 : w1.cell? ⟨w.heap.size + 1, 1, none⟩ = some (.int .i64 py) := by simp [World.cell?, hp1]
  have p2 : w1.cell? ⟨w.heap.size + 1, 2, none⟩ = some (.int .u32 pi) := by simp [World.cell?, hp1]
  have hn0 : 0 < R.length := by omega
  have hxn := hx
  obtain ⟨n, hn⟩ : ∃ n, n = R.length := ⟨_, rfl⟩
  rw [← hn] at hR c0 CB hn0 hxn
  have HN := Lib.hid hn
  have HB1 := Lib.hid hb1
  have HA := Lib.hid hA
  have HW := Lib.hid hW
  have htl1 : tb < w1.heap.size := by omega
  have htc1 : w.heap.size < w1.heap.size := by omega
  have hpc1 : w.heap.size + 1 < w1.heap.size := by omega
  clear hA hrd hb er hn hb1 ht1 hp1 hh1 hs1 hfx hp hx hW hpt
  have d0 : ((n : Int) == 0) = false := by simp; omega
  have d1 : (n == 0) = false := by simp; omega
  have d2 : decide (n = 0) = false := by simp; omega
  obtain ⟨tc, htc⟩ : ∃ tc, tc = w.heap.size := ⟨_, rfl⟩
  have HTC := Lib.hid htc
  go_enter Tryz.func21, Tryz.ntmps21
  go_upto_region 1 with fail
  rw [← ew1]
  clear ew1
  rw [← htc] at t0 p0 p1 p2 htc1 hpc1 ⊢
  clear htc
  go_upto_region 3 with fail
  have HC3 : Hid (∀ b : BelowW w1, Calls Tryz.prog 53 #[.slice ra n rc, vPt px py pi, .func (.func 45) #[] #[]] b.W fun e w' => e = .returned (.tuple #[.int .i64 (x : Nat), .bool true]) ∧ Below b.W.heap.size b.W w') := fun b => CB.out b.W (HB1.out.trans (b.h.mono HB1.out.size))
  clear CB
  go_cut [5, 6] from 5 (fun v5 v6 wx => ∃ ab : Nat, v5 = .pointer (some ⟨ab, 0, none⟩) ∧ v6 = .bool true ∧ Hid (Below w1.heap.size w1 wx) ∧ Hid (wx.heap[ab]? = some (.cells #[.int .i64 (x : Nat)] 3 (0, 0))))
  case first =>
    have g0 := cell_belowW c0
    have g1 := cell_belowW t0
    have g2 := cell_belowW p0
    have g3 := cell_belowW p1
    have g4 := cell_belowW p2
    refine wp_region_head (fun W => ∃ p : BelowW w1, W = p.W) [11] [(0, true), (1, false), (2, false), (3, true), (4, true)] (by kernel_rfl) (by kernel_rfl) (fun _ _ d _ _ h => by cases d <;> exact h) ⟨⟨_, (Below.refl _ _).drew⟩, rfl⟩ 7 rfl (by kernel_rfl) ?_
    simp only [pickB, List.filterMap_cons, List.filterMap_nil, List.getElem?_toArray, List.getElem?_cons_succ, List.getElem?_cons_zero, Option.map_some]
    repeat (refine wpHd_step (fun K hK => ?_); go_simp; first | (refine hK _ ?_; clear hK K) | (apply Exists.intro; refine ⟨fun _ => ?_, hK _ ?_⟩; rfl; clear hK K))
    refine wpHd_nil ?_
    have hbd : Below w1.heap.size w1 w1.drew := (Below.refl _ _).drew
    refine wpAnyT_ready [5, 9] (by kernel_rfl) (by simp) ?_
    refine AllReadyT.cons rfl (fun K hK => ?_) (AllReadyT.cons rfl (fun K hK => ?_) AllReadyT.nil)
    · refine step_call ent_bsfX rfl _ _ rfl (vals := #[.slice ra n rc, vPt px py pi, .func (.func 45) #[] #[]]) rfl (HC3.out ⟨w1.drew, hbd⟩) ?_
      rintro e w3 ⟨rfl, hb3⟩
      have hb13 : Below w1.heap.size w1 w3 := hbd.trans hb3
      refine ⟨_, rfl, hK _ _ (fun _ _ => ⟨⟨_, hb13⟩, rfl⟩) ?_⟩
      clear hK K
      refine wpAnyT_next [(6, false), (7, false), (8, false)] (by kernel_rfl) (fun _ _ d _ _ h => by cases d <;> exact h) ⟨⟨_, hb13⟩, rfl⟩ (by kernel_rfl) (by kernel_rfl) rfl ?_
      simp only [pickB, List.filterMap_cons, List.filterMap_nil, List.getElem?_toArray, List.getElem?_cons_succ, List.getElem?_cons_zero, Option.map_some]
      repeat (refine wpHd_step (fun K hK => ?_); go_simp; first | (refine hK _ ?_; clear hK K) | (apply Exists.intro; refine ⟨fun _ => ?_, hK _ ?_⟩; rfl; clear hK K))
      refine wpHd_nil ?_
      have HBX : Hid (Below w1.heap.size w1 (w3.alloc (.cells #[.int .i64 (x : Nat)] 3))) := hb13.alloc hb13.size _
      have HLX := Lib.hid (lit0 w3 (.cells #[.int .i64 (x : Nat)] 3))
      refine wpAnyT_ready [9] (by kernel_rfl) (by simp) ?_
      refine AllReadyT.cons rfl (fun K hK => ?_) AllReadyT.nil
      go_simp
      refine hK _ _ (fun _ _ => ⟨⟨_, hb13.alloc hb13.size _⟩, rfl⟩) ?_
      clear hK K
      refine wpAnyT_ready [10] (by kernel_rfl) (by simp) ?_
      refine AllReadyT.cons rfl (fun K hK => ?_) AllReadyT.nil
      go_simp
      refine hK _ _ (fun _ _ => ⟨⟨_, HBX.out⟩, rfl⟩) ?_
      clear hK K
      refine wpAnyT_line [11] _ _ _ (by kernel_rfl) ?_
      simp only [pick, List.filterMap_cons, List.filterMap_nil, List.getElem?_toArray, List.getElem?_cons_succ, List.getElem?_cons_zero]
      clear hb13 hb3
      go_wp2
      go_meet
      exact ⟨_, rfl, rfl, HBX.out, HLX.out⟩
    · obtain ⟨w2, ew2⟩ : ∃ w2, w2 = (w1.alloc (.cells #[.int .i64 0] 3)).drew := ⟨_, rfl⟩
      have hb2 : Below w1.heap.size w1 w2 := by rw [ew2]; exact ((Below.refl _ _).alloc (Nat.le_refl _) _).drew
      have hx2 : w2.heap[w1.heap.size]? = some (.cells #[.int .i64 0] 3 (0, 0)) := by rw [ew2]; exact lit0 w1 _
      go_simp
      rw [← ew2]
      clear ew2
      refine hK _ _ (fun _ _ => ⟨⟨_, hb2⟩, rfl⟩) ?_
      clear hK K
      refine wpAnyT_ready [5] (by kernel_rfl) (by simp) ?_
      refine AllReadyT.cons rfl (fun K hK => ?_) AllReadyT.nil
      refine step_call ent_bsfX rfl _ _ rfl (vals := #[.slice ra n rc, vPt px py pi, .func (.func 45) #[] #[]]) rfl (HC3.out ⟨w2, hb2⟩) ?_
      rintro e w3 ⟨rfl, hb3⟩
      have hb13 : Below w1.heap.size w1 w3 := hb2.trans (hb3.mono hb2.size)
      have hx3 := (hb3.block _ (Array.getElem?_eq_some_iff.1 hx2).1).trans hx2
      refine ⟨_, rfl, hK _ _ (fun _ _ => ⟨⟨_, hb13⟩, rfl⟩) ?_⟩
      clear hK K
      refine wpAnyT_next [(6, false), (7, false), (8, false)] (by kernel_rfl) (fun _ _ d _ _ h => by cases d <;> exact h) ⟨⟨_, hb13⟩, rfl⟩ (by kernel_rfl) (by kernel_rfl) rfl ?_
      simp only [pickB, List.filterMap_cons, List.filterMap_nil, List.getElem?_toArray, List.getElem?_cons_succ, List.getElem?_cons_zero, Option.map_some]
      repeat (refine wpHd_step (fun K hK => ?_); go_simp; first | (refine hK _ ?_; clear hK K) | (apply Exists.intro; refine ⟨fun _ => ?_, hK _ ?_⟩; rfl; clear hK K))
      refine wpHd_nil ?_
      have y0 : w3.cell? ⟨w1.heap.size, 0, none⟩ = some (.int .i64 0) := by simp [World.cell?, hx3]
      have z0 : w3.frozen? ⟨w1.heap.size, 0, none⟩ = false := by simp [World.frozen?, hx3]
      have HBX : Hid (Below w1.heap.size w1 (w3.setCell ⟨w1.heap.size, 0, none⟩ (.int .i64 (x : Nat)))) := ⟨hb13.os, hb13.tape, hb13.output, by simpa using hb13.size, fun b hb => (heap_setNe (show w1.heap.size ≠ b by omega)).trans (hb13.block b hb)⟩
      have HLX : Hid ((w3.setCell ⟨w1.heap.size, 0, none⟩ (.int .i64 (x : Nat))).heap[w1.heap.size]? = some (.cells #[.int .i64 (x : Nat)] 3 (0, 0))) := heap_setCell_same w3 _ 0 _ _ _ hx3
      refine wpAnyT_ready [10] (by kernel_rfl) (by simp) ?_
      refine AllReadyT.cons rfl (fun K hK => ?_) AllReadyT.nil
      go_simp
      refine hK _ _ (fun _ _ => ⟨⟨_, HBX.out⟩, rfl⟩) ?_
      clear hK K
      refine wpAnyT_line [11] _ _ _ (by kernel_rfl) ?_
      simp only [pick, List.filterMap_cons, List.filterMap_nil, List.getElem?_toArray, List.getElem?_cons_succ, List.getElem?_cons_zero]
      clear hb13 hb3 hb2 hx2 hx3 y0 z0
      go_wp2
      go_meet
      exact ⟨_, rfl, rfl, HBX.out, HLX.out⟩
  case rest =>
    obtain ⟨ab, rfl, rfl, HBx, HAx⟩ := hcut
    have hax := HAx.out
    have hbx := HBx.out
    have HBC : Hid (Below w.heap.size w wc) := HB1.out.trans (hbx.mono HB1.out.size)
    have a0 : wc.cell? ⟨ab, 0, none⟩ = some (.int .i64 (x : Nat)) := by simp [World.cell?, hax]
    have hal : ab < wc.heap.size := (Array.getElem?_eq_some_iff.1 hax).1
    have c0 := (hbx.cell (p := ⟨tb, 0, none⟩) htl1).trans c0
    have t0 := (hbx.cell (p := ⟨tc, 0, none⟩) htc1).trans t0
    have p0 := (hbx.cell (p := ⟨tc + 1, 0, none⟩) hpc1).trans p0
    have p1 := (hbx.cell (p := ⟨tc + 1, 1, none⟩) hpc1).trans p1
    have p2 := (hbx.cell (p := ⟨tc + 1, 2, none⟩) hpc1).trans p2
    have htcc : tc < wc.heap.size := Nat.lt_of_lt_of_le htc1 hbx.size
    have HMC : Hid (HptAt wc lo hi tb fb R h cnt V) := HA.out.below HBC.out htbr.2.2.2.2
    have hfb := HMC.out.blk
    have c2 : wc.cell? ⟨tb, 2, none⟩ = some (.pointer (some ⟨fb, 0, none⟩)) := by simp [World.cell?, hfb]
    obtain ⟨b, off, ea, hbb, hcs⟩ := (HRD.out.below HBC.out).get (by have := HN.out; omega)
    have r0 := hcs x HXR.out 0 (by omega)
    have r1 := hcs x HXR.out 1 (by omega)
    have r2 := hcs x HXR.out 2 (by omega)
    rw [← ptAt_eq HXR.out, HP.out] at r0 r1 r2
    simp only [ePt, List.getElem?_cons_zero, List.getElem?_cons_succ, Nat.add_zero] at r0 r1 r2
    subst ea
    have htbc : tb < wc.heap.size := Nat.lt_of_lt_of_le htl1 hbx.size
    clear hcs hax hbx hfb HA
    go_upto_region 4 with fail
    go_quiet (fail)
    obtain ⟨w3, ew3⟩ : ∃ w3, w3 = wc.drewN nq := ⟨_, rfl⟩
    have hb3 : Below wc.heap.size wc w3 := by rw [ew3]; exact Below.drewAny _ _
    have a0 : w3.cell? ⟨ab, 0, none⟩ = some (.int .i64 (x : Nat)) := by rw [ew3]; exact a0
    have t0 : w3.cell? ⟨tc, 0, none⟩ = some (.pointer (some ⟨tb, 0, none⟩)) := by rw [ew3]; exact t0
    have c2 : w3.cell? ⟨tb, 2, none⟩ = some (.pointer (some ⟨fb, 0, none⟩)) := by rw [ew3]; exact c2
    have HM3 : Hid (HptAt w3 lo hi tb fb R h cnt V) := HMC.out.below hb3 HMC.out.tbr.2.2.2.2
    have HB3 : Hid (Below w.heap.size w w3) := HBC.out.trans (hb3.mono HBC.out.size)
    have hal : ab < w3.heap.size := by rw [ew3]; exact hal
    have htcc : tc < w3.heap.size := by rw [ew3]; exact htcc
    go_upto_region 6 with fail
    rw [← ew3]
    clear ew3 hb3 HMC HBC r0 r1 r2 p0 p1 p2 c0 hbb
    have hbd : Below w3.heap.size w3 w3.drew := (Below.refl _ _).drew
    have CP := Lib.hid (frame_path lo fb n x V.fv (by omega) hxn w3.drew (by rw [HN.out]; exact (HM3.out.below hbd HM3.out.tbr.2.2.2.2).frm))
    have g0 := cell_belowW t0
    have g1 := cell_belowW c2
    have g2 := cell_belowW a0
    refine wp_region_head (fun W => ∃ p : BelowW w3, W = p.W) [5, 6, 7, 8, 9, 10] [(0, true), (1, false), (2, false), (3, true), (4, true)] (by kernel_rfl) (by kernel_rfl) (fun _ _ d _ _ h => by cases d <;> exact h) ⟨⟨_, (Below.refl _ _).drew⟩, rfl⟩ 6 rfl (by kernel_rfl) ?_
    simp only [pickB, List.filterMap_cons, List.filterMap_nil, List.getElem?_toArray, List.getElem?_cons_succ, List.getElem?_cons_zero, Option.map_some]
    repeat (refine wpHd_step (fun K hK => ?_); go_simp; first | (refine hK _ ?_; clear hK K) | (apply Exists.intro; refine ⟨fun _ => ?_, hK _ ?_⟩; rfl; clear hK K))
    refine wpHd_nil ?_
    refine wpAnyT_ready [5] (by kernel_rfl) (by simp) ?_
    refine AllReadyT.cons rfl (fun K hK => ?_) AllReadyT.nil
    refine step_call ent_path rfl _ _ rfl (vals := #[.pointer (some ⟨fb, 0, none⟩), .int .i64 (x : Nat)]) rfl CP.out ?_
    rintro e w4 ⟨pv, rfl, hpv, hb4⟩
    have hb34 : Below w3.heap.size w3 w4 := hbd.trans hb4
    refine ⟨_, rfl, hK _ _ (fun _ h => absurd (by simp) h) ?_⟩
    clear hK K
    refine wpAnyT_next [(6, false), (7, false), (8, false)] (by kernel_rfl) (fun _ _ d _ _ h => by cases d <;> exact h) ⟨⟨_, hb34⟩, rfl⟩ (by kernel_rfl) (by kernel_rfl) rfl ?_
    simp only [pickB, List.filterMap_cons, List.filterMap_nil, List.getElem?_toArray, List.getElem?_cons_succ, List.getElem?_cons_zero, Option.map_some]
    repeat (refine wpHd_step (fun K hK => ?_); go_simp; first | (refine hK _ ?_; clear hK K) | (apply Exists.intro; refine ⟨fun _ => ?_, hK _ ?_⟩; rfl; clear hK K))
    refine wpHd_nil ?_
    refine wpAnyT_line [9, 10] _ _ _ (by kernel_rfl) ?_
    simp only [pick, List.filterMap_cons, List.filterMap_nil, List.getElem?_toArray, List.getElem?_cons_succ, List.getElem?_cons_zero]
    have HM4 : Hid (HptAt w4 lo hi tb fb R h cnt V) := HM3.out.below hb34 HM3.out.tbr.2.2.2.2
    have HB4 : Hid (Below w.heap.size w w4) := HB3.out.trans (hb34.mono HB3.out.size)
    have t0 := (hb34.cell (p := ⟨tc, 0, none⟩) htcc).trans t0
    have a0 := (hb34.cell (p := ⟨ab, 0, none⟩) hal).trans a0
    have htcc : tc < w4.heap.size := Nat.lt_of_lt_of_le htcc hb34.size
    have hal : ab < w4.heap.size := Nat.lt_of_lt_of_le hal hb34.size
    obtain ⟨P, hPd⟩ : ∃ P, P = (mkT 0 n).path 0 x := ⟨_, rfl⟩
    rw [← hPd] at hpv
    have hPl : P.length ≤ n + 1 := by
      have h1 := FT.path_len (mkT 0 n) 0 x
      have h2 := mkT_ht 0 n n (Nat.le_of_lt (Nat.lt_two_pow_self))
      rw [hPd]
      omega
    obtain ⟨hwT, hlT, hhT⟩ := mkT_spec 0 n hn0
    have hT0 := nds_at n hn0
    rw [nds_eq hn0] at hT0
    have hPk : ∀ k ∈ P, k < (nds R.length).length := fun k hk => by
      rw [hPd] at hk
      obtain ⟨⟨t, s⟩, hts0, hts, -, -⟩ := FT.mem_path (mkT 0 n) 0 x hwT (by omega) (by omega) k hk
      have ha : FT.At (nds n) t s := by rw [nds_eq hn0]; exact FT.subs_at _ 0 hT0 _ hts0
      have := ha.lt
      simp only at hts
      rw [← HN.out]
      omega
    have hph := path_hold (lt := ltI R) (lb := ltB R) (mkT 0 n) 0 h x hwT (by have := HW.out.ok (by have := HN.out; omega); rw [← HN.out] at this; exact this) (by omega) (by omega)
    rw [← hPd] at hph
    have hhl : hld R h = held h (mkT 0 n) 0 := by rw [hld_pos (by have := HN.out; omega), HN.out]
    have HPH : Hid (((∀ k ∈ P, h k ≠ some x) → x ∉ hld R h) ∧ ∀ m k : Nat, P[m]? = some k → h k = some x → (∀ i < m, ∀ k', P[i]? = some k' → h k' ≠ some x) → ∃ t' s', FT.At (nds R.length) t' s' ∧ k = t'.root s' ∧ outH R x h = pullH (ltB R) t' s' h ∧ x ∈ hld R h) := by
      refine ⟨fun h9 => by rw [hhl]; exact hph.1 h9, fun m k h1 h2 h3 => ?_⟩
      obtain ⟨t', s', q1, q2, q3⟩ := hph.2 m k h1 h2 h3
      refine ⟨t', s', ?_, q2, ?_, ?_⟩
      · rw [← HN.out, nds_eq hn0]; exact FT.subs_at _ 0 hT0 _ q1
      · unfold outH; rw [← HN.out]; exact q3
      · rw [hhl]
        refine held_sub _ q1 x ?_
        obtain ⟨L, eL⟩ := held_root (t := t') (s := s') (h := h) (by rw [← q2]; exact h2)
        rw [eL]; simp
    obtain ⟨pa, pc, rfl, -, -, hrp⟩ := Rd.of_owns (enc := eNat) hpv
    have HPV : Hid (w4.ownsRow w3.heap.size 3 1 (.slice pa P.length pc) P.length (P.map eNat)) := rowMono hpv (Nat.le_refl _)
    have hs3 : w.heap.size ≤ w3.heap.size := HB3.out.size
    have HRP := Lib.hid hrp
    have CI := Lib.hid (heap_idx HM4.out (by have := HN.out; omega) tc ab x t0 a0 P hPk pa pc hrp (by omega))
    clear hph hhl hPk hPd hwT hlT hhT hT0 hpv hrp hb34 hb4 hbd g0 g1 g2 CP HM3 HB3 c2
    go_wp2_with fail
    refine CI.out.mono ?_
    rintro e w5 ⟨ri, rfl, hb5, hcase⟩
    have HM5 : Hid (HptAt w5 lo hi tb fb R h cnt V) := HM4.out.below hb5 HM4.out.tbr.2.2.2.2
    have HB5 : Hid (Below w.heap.size w w5) := HB4.out.trans (hb5.mono HB4.out.size)
    have t0 := (hb5.cell (p := ⟨tc, 0, none⟩) htcc).trans t0
    have htcc : tc < w5.heap.size := Nat.lt_of_lt_of_le htcc hb5.size
    have HPV5 := Lib.hid (ownsRow_below HPV.out hb5)
    clear hb5 CI HM4 HB4 HRP a0 hal
    rcases hcase with ⟨rfl, hnone⟩ | ⟨j, k, rfl, hjk, hkx, hfirst⟩
    · have HFIN : Hid (DropPH w lo hi tb fb R h cnt V x (.returned (.bool false)) w5) := .inl ⟨HPH.out.1 hnone, rfl, HB5.out⟩
      clear hnone
      go_wp2
      go_ret
      exact HFIN.out
    · obtain ⟨t', s', q1, q2, q3, q4⟩ := HPH.out.2 j k hjk hkx hfirst
      have hjl : j < P.length := (List.getElem?_eq_some_iff.1 hjk).1
      have hPj : P[j] = k := (List.getElem?_eq_some_iff.1 hjk).2
      have HAT := Lib.hid q1
      have HKK := Lib.hid q2
      have HOUT := Lib.hid q3
      have HIN := Lib.hid q4
      have hb5' := HM5.out.blk
      have c5 : w5.cell? ⟨tb, 5, none⟩ = some (.int .i64 cnt) := by simp [World.cell?, hb5']
      have z5 : w5.frozen? ⟨tb, 5, none⟩ = false := by simp [World.frozen?, hb5']
      have e0 : decide ((j : Int) < 0) = false := by simp
      have htb5 := HM5.out.tbl
      have hjP : j < P.length := hjl
      have HPJ := Lib.hid hPj
      clear hPj hb5' q1 q2 q3 q4 hjk hkx hfirst
      go_upto_region 11 with fail
      obtain ⟨w6, ew6⟩ : ∃ w6, w6 = w5.setCell ⟨tb, 5, none⟩ (.int .i64 (cnt - 1)) := ⟨_, rfl⟩
      have HM6 : Hid (HptAt w6 lo hi tb fb R h (cnt - 1) V) := by rw [ew6]; exact HM5.out.setCnt (cnt - 1)
      have hk6 : KpS (fun k => k = tb) w5 w6 := by rw [ew6]; exact (KpS.refl (fun k => k = tb) w5).set (a := ⟨tb, 5, none⟩) _ (.inl rfl)
      have HK6 : Hid (KpS (fun k => lo ≤ k ∧ k < hi) w w6) := ((KpS.refl _ w).below HB5.out).trans (hk6.mono fun k h => by subst h; exact ⟨htbr.1, htbr.2.1⟩)
      have htcn : tc ≠ tb := by have := HTC.out; omega
      have t0 := ((cellK hk6 htcc htcn).1 0).trans t0
      have htcc : tc < w6.heap.size := Nat.lt_of_lt_of_le htcc hk6.size
      have hpv6 := rowK HPV5.out hk6 (fun g e h9 => by have := (HPV5.out.lt g e).1; omega)
      obtain ⟨gp, cp, ep, -, -⟩ := ownRow_at hpv6 (by omega)
      rw [ep] at hpv6
      injection ep with ep1 ep2 ep3
      have x0 := hpv6.cellAt j (by omega)
      rw [List.getElem?_map, List.getElem?_eq_getElem hjP, HPJ.out] at x0
      simp only [Option.map_some, eNat] at x0
      rw [← ew6]
      subst ep1
      clear ew6 c5 z5 hk6 hpv6 ep2 ep3 HM5 HB5 HPV5 HPV hjP
      go_wp2_with fail
      go_loopg [10] t'.size (fun kx s10 wr => ∃ (t : FT) (s : Nat) (hc : Hld), s10 = .int .i64 (t.root s : Nat) ∧ t.size ≤ kx ∧ Hid (FT.At (nds R.length) t s) ∧ Hid (HptAt wr lo hi tb fb R hc (cnt - 1) V) ∧ Hid (pullH (ltB R) t s hc = outH R x h) ∧ Hid (∀ k i, k < (nds R.length).length → hc k = some i → i < R.length) ∧ Hid (KpS (fun k => lo ≤ k ∧ k < hi) w wr) ∧ wr.cell? ⟨tc, 0, none⟩ = some (.pointer (some ⟨tb, 0, none⟩)))
      case atStart => exact ⟨t', s', h, by rw [HKK.out], Nat.le_refl _, HAT, HM6, HOUT.out.symm, fun k i hk e => HW.out.pl hk e, HK6, t0⟩
      case round =>
        obtain ⟨t, s, hc, rfl, hkx, HAr, HMr, HPr, HLr, HKr, tr⟩ := hrel
        have CL := Lib.hid (heap_lesser HMr.out (by have := HN.out; omega) HAr.out HLr.out)
        have hps := pull_step (lb := ltB R) (h := hc) HAr.out
        have hkl := HAr.out.lt
        have htlr := HMr.out.tbl
        have htcr : tc < wr.heap.size := World.block_lt_of_cell? wr _ tr
        rcases hps with ⟨e1, e2⟩ | ⟨t2, s2, i, e1, e2, e3, e4, e5⟩
        · rw [e1] at CL
          have HPE := Lib.hid e2
          clear e1 e2
          go_wp2_with fail
          refine CL.out.mono ?_
          rintro e w7 ⟨rfl, hb7⟩
          have HM7 : Hid (HptAt w7 lo hi tb fb R hc (cnt - 1) V) := HMr.out.below hb7 HMr.out.tbr.2.2.2.2
          have HK7 : Hid (KpS (fun k => lo ≤ k ∧ k < hi) w w7) := HKr.out.below hb7
          have t7 := (hb7.cell (p := ⟨tc, 0, none⟩) htcr).trans tr
          obtain ⟨gh, ch, ehv, hg1, hg2, -, -, hghl, hcs, -⟩ := HM7.out.holds (by have := HN.out; omega)
          obtain ⟨y0, z0⟩ := hcs _ hkl
          have hb7' := HM7.out.blk
          rw [ehv] at hb7'
          have c4 : w7.cell? ⟨tb, 4, none⟩ = some (.slice (some ⟨gh, 0, none⟩) (nds R.length).length ch) := by simp [World.cell?, hb7']
          have HFIN : Hid (DropPH w lo hi tb fb R h cnt V x (.returned (.bool true)) (w7.setCell ⟨gh, t.root s, none⟩ (.int .i64 (-1)))) := by
            refine .inr ⟨HIN.out, rfl, ?_, HK7.out.set (a := ⟨gh, t.root s, none⟩) _ (.inl ⟨hg1, hg2⟩)⟩
            have := HM7.out.setHold ehv hkl none
            rw [← HPE.out, HPr.out] at this
            exact this
          clear hb7 hb7' hcs ehv HM7 HK7 CL tr htcr
          generalize t.root s = kr at *
          generalize (nds R.length).length = M at *
          go_wp2
          go_ret
          exact HFIN.out
        · rw [e1] at CL
          have HPE := Lib.hid e5
          have HA2 := Lib.hid e2
          have HSZ := Lib.hid e3
          have HE4 := Lib.hid e4
          have hkl2 := e2.lt
          clear e1 e2 e3 e4 e5
          go_wp2_with fail
          refine CL.out.mono ?_
          rintro e w7 ⟨rfl, hb7⟩
          have HM7 : Hid (HptAt w7 lo hi tb fb R hc (cnt - 1) V) := HMr.out.below hb7 HMr.out.tbr.2.2.2.2
          have HK7 : Hid (KpS (fun k => lo ≤ k ∧ k < hi) w w7) := HKr.out.below hb7
          have t7 := (hb7.cell (p := ⟨tc, 0, none⟩) htcr).trans tr
          have htc7 : tc < w7.heap.size := Nat.lt_of_lt_of_le htcr hb7.size
          obtain ⟨gh, ch, ehv, hg1, hg2, -, -, hghl, hcs, -⟩ := HM7.out.holds (by have := HN.out; omega)
          obtain ⟨y0, z0⟩ := hcs _ hkl
          obtain ⟨y1, -⟩ := hcs _ hkl2
          rw [HE4.out] at y1
          simp only [eHo] at y1
          have hb7' := HM7.out.blk
          rw [ehv] at hb7'
          have c4 : w7.cell? ⟨tb, 4, none⟩ = some (.slice (some ⟨gh, 0, none⟩) (nds R.length).length ch) := by simp [World.cell?, hb7']
          have htl7 := HM7.out.tbl
          have hiR := HLr.out _ i hkl2 HE4.out
          have HFIN : Hid (∀ wz, wz = w7.drew.setCell ⟨gh, t.root s, none⟩ (.int .i64 (i : Nat)) → HptAt wz lo hi tb fb R (updH hc (t.root s) (some i)) (cnt - 1) V ∧ KpS (fun k => lo ≤ k ∧ k < hi) w wz ∧ wz.cell? ⟨tc, 0, none⟩ = some (.pointer (some ⟨tb, 0, none⟩))) := fun wz ez => by
            subst ez
            have hbd : Below w7.heap.size w7 w7.drew := (Below.refl _ _).drew
            have hmd := HM7.out.below hbd HM7.out.tbr.2.2.2.2
            refine ⟨hmd.setHold ehv hkl (some i), (HK7.out.below hbd).set (a := ⟨gh, t.root s, none⟩) _ (.inl ⟨hg1, hg2⟩), ?_⟩
            have hk9 : KpS (fun k => k = gh) w7.drew (w7.drew.setCell ⟨gh, t.root s, none⟩ (.int .i64 (i : Nat))) := (KpS.refl (fun k => k = gh) _).set (a := ⟨gh, t.root s, none⟩) _ (.inl rfl)
            exact ((cellK hk9 (show tc < w7.drew.heap.size from htc7) (by have := HTC.out; omega)).1 0).trans t7
          have HLN : Hid (∀ k j, k < (nds R.length).length → updH hc (t.root s) (some i) k = some j → j < R.length) := fun k j hk hj => by
            by_cases e : k = t.root s
            · subst e
              rw [updH_same] at hj
              injection hj with hj
              omega
            · rw [updH_ne e] at hj
              exact HLr.out k j hk hj
          have HPN : Hid (pullH (ltB R) t2 s2 (updH hc (t.root s) (some i)) = outH R x h) := by
            show _ = _
            rw [← HPE.out]; exact HPr.out
          clear hb7 hb7' hcs ehv HM7 HK7 CL tr htcr HPE HE4 HLr HPr
          obtain ⟨kr, hkr⟩ : ∃ kr, kr = t.root s := ⟨_, rfl⟩
          obtain ⟨k2, hk2⟩ : ∃ k2, k2 = t2.root s2 := ⟨_, rfl⟩
          obtain ⟨M, hM⟩ : ∃ M, M = (nds R.length).length := ⟨_, rfl⟩
          rw [← hkr] at y0 z0 hkl HFIN HPN HLN ⊢
          rw [← hk2] at y1 hkl2 ⊢
          rw [← hM] at c4 hkl hkl2
          have HK2 := Lib.hid hk2
          have HKR := Lib.hid hkr
          clear hkr hk2 hM
          have g0 := cell_belowW t7
          have g1 := cell_belowW c4
          have g2 := cell_belowW y1
          go_upto_region 16 with fail
          refine wp_region_head (fun W => ∃ p : BelowW w7, W = p.W) [12, 13] [(0, true), (1, false), (2, false), (3, true), (4, false), (5, true), (6, false), (7, false), (8, true), (9, false), (10, false), (11, true)] (by kernel_rfl) (by kernel_rfl) (fun _ _ d _ _ h => by cases d <;> exact h) ⟨⟨_, (Below.refl _ _).drew⟩, rfl⟩ 2 rfl (by kernel_rfl) ?_
          simp only [pickB, List.filterMap_cons, List.filterMap_nil, List.getElem?_toArray, List.getElem?_cons_succ, List.getElem?_cons_zero, Option.map_some]
          repeat (refine wpHd_step (fun K hK => ?_); go_simp; first | (refine hK _ ?_; clear hK K) | (apply Exists.intro; refine ⟨fun _ => ?_, hK _ ?_⟩; rfl; clear hK K))
          refine wpHd_nil ?_
          refine wpAnyT_line [12, 13] _ _ _ (by kernel_rfl) ?_
          simp only [pick, List.filterMap_cons, List.filterMap_nil, List.getElem?_toArray, List.getElem?_cons_succ, List.getElem?_cons_zero]
          have y0 : w7.drew.cell? ⟨gh, kr, none⟩ = some (.int .i64 (eHo (hc kr))) := y0
          have z0 : w7.drew.frozen? ⟨gh, kr, none⟩ = false := z0
          clear g0 g1 g2 y1 t7 c4
          generalize w7.drew = w8 at *
          go_wp2
          go_roundg (t2.size)
          case measure => have := HSZ.out; omega
          case rel =>
            obtain ⟨f1, f2, f3⟩ := HFIN.out _ rfl
            exact ⟨t2, s2, _, by rw [HK2.out], Nat.le_refl _, HA2, f1, HPN, HLN, f2, f3⟩
end Go.Proofs.YtggfdlanobndjaaGreat
