/- What the closures of band.Report and Count do; Report and Count. -/
import Derived.Test.YthpgkldpbbajfaaGreatBnE
import Derived.Test.YthpgkldpbbajfaaGreatQ3
namespace Go.Proofs.YthpgkldpbbajfaaGreat
open Go.RowKit Go.Sort Go.Shelf Go.Lib Go.Maps
attribute [local irreducible] wpQuiet
attribute [local go_sem] Oper.still1
set_option linter.unusedSimpArgs false
set_option linter.unusedVariables false

section
variable {yv : Nat → Int} {y1 y2 : Int} {L : List Nat}
theorem map_sorted (hs : L.Pairwise fun i k => yv i ≤ yv k) : (L.map yv).Pairwise (· ≤ ·) := List.pairwise_map.2 hs
theorem first_below (hs : L.Pairwise fun i k => yv i ≤ yv k) (y : Int) : (rkFirst (L.map yv) y).1 = below yv y L := by
  rw [rkFirst_count (map_sorted hs)]; unfold below; rw [List.countP_map]; rfl
theorem above_upto (hs : L.Pairwise fun i k => yv i ≤ yv k) (y : Int) : (rkAbove (L.map yv) y).1 = upto yv y L := by
  rw [rkAbove_count (map_sorted hs)]; unfold upto; rw [List.countP_map]; rfl
theorem upto_at (hs : L.Pairwise fun i k => yv i ≤ yv k) {j : Nat} (hj : j < L.length) : (yv L[j] ≤ y2 ↔ j < upto yv y2 L) := by
  constructor
  · intro h
    by_cases e : j < upto yv y2 L
    · exact e
    · exfalso
      have h1 := drop_filter (p := fun i => decide (yv i ≤ y2)) L (hs.imp fun h h2 => by simp only [decide_eq_true_eq] at *; omega)
      have h2 : L[j] ∈ L.drop (upto yv y2 L) := by
        rw [List.mem_drop_iff_getElem]
        exact ⟨j - upto yv y2 L, by omega, by congr 1; omega⟩
      unfold upto at h2
      rw [h1, List.mem_filter] at h2
      have h3 := h2.2
      simp at h3
      omega
  · intro h
    have h1 := take_upto hs y2
    have h2 : L[j] ∈ L.take (upto yv y2 L) := by
      rw [List.mem_take_iff_getElem]
      exact ⟨j, by omega, rfl⟩
    rw [h1, List.mem_filter] at h2
    simpa using h2.2
end

def CntSB (bb nb : Nat) (x1 x2 y1 y2 bi : Int) (w0 : World) (W : World) (acc : List Nat) (D : Nat → Prop) : Prop :=
  Below w0.heap.size w0 W ∧ W.heap[bb]? = some (.cells #[.int .i64 x1, .int .i64 x2, .int .i64 y1, .int .i64 y2, .int .u32 bi] 51 (0, 0)) ∧ W.heap[nb]? = some (.cells #[.int .i64 acc.length] 3 (0, 0)) ∧ D = fun k => k = nb

theorem ent_bcnt : ∀ args w, (callFunc 81 args).run Tryz.prog w = .ok (.enter 81 args) w := enters_of Tryz.func81 (by kernel_rfl) rfl
theorem ent_brep : ∀ args w, (callFunc 78 args).run Tryz.prog w = .ok (.enter 78 args) w := enters_of Tryz.func78 (by kernel_rfl) rfl

set_option maxRecDepth 100000 in
set_option maxHeartbeats 2000000 in
theorem cnt_tldB {w0 : World} {lo hi tb fb cnt : Nat} {R : List Pt} {gone : List Bool} {nc : Nat → List Nat} {V : BndV} (hA : BndAt w0 lo hi tb fb R gone cnt nc V) (bb nb : Nat) (FL : List Nat) (hFL : FL.length ≤ 1000000) (hnb : w0.heap.size ≤ nb) (x1 x2 y1 y2 bi : Int) (hy : y1 ≤ y2)
    (hs : ∀ k, (nc k).Pairwise fun i j => yvR R i ≤ yvR R j) (hl : ∀ k, (nc k).length ≤ 20000) :
    TldB 81 #[.pointer (some ⟨bb, 0, none⟩), .pointer (some ⟨nb, 0, none⟩)] (costC R y1 y2) (yvR R) y1 y2 (nds R.length).length nc V.LY V.LN w0 FL (CntSB bb nb x1 x2 y1 y2 bi w0) where
  enters := ent_bcnt
  base := fun W acc D h => h.1
  lt := fun W acc D h k hk => by
    obtain ⟨h1, hb, h2, rfl⟩ := h
    have := (Array.getElem?_eq_some_iff.1 h2).1
    subst hk
    exact ⟨hnb, this⟩
  stable := fun W W' acc D h hb => by
    obtain ⟨h1, hbb, h2, rfl⟩ := h
    exact ⟨h1.trans (hb.mono h1.size), (hb.block bb (Array.getElem?_eq_some_iff.1 hbb).1).trans hbb, (hb.block nb (Array.getElem?_eq_some_iff.1 h2).1).trans h2, rfl⟩
  told := fun W acc D k h hk hF => by
    obtain ⟨h1, hbb, h2, rfl⟩ := h
    have hyr := ownsRow_below (hA.yss k hk) h1
    obtain ⟨ya, yc, ey, -, -, ry⟩ := Rd.of_owns hyr
    rw [List.length_map] at ey
    obtain ⟨na, nc', en⟩ := rowV (hA.nam k hk)
    have hbl := btw_len (hs k) y1 y2 hy
    have hll := hl k
    have hl2 := hF.length_le
    rw [List.length_append] at hl2
    have e3 : (acc ++ btw (yvR R) y1 y2 (nc k)).length = acc.length + (btw (yvR R) y1 y2 (nc k)).length := List.length_append
    have c1 := fun W' (hb : Below W.heap.size W W') => rFirst ya ((nc k).map (yvR R)) yc y1 W' (ry.below hb) (by rw [List.length_map]; omega)
    have c2 := fun W' (hb : Below W.heap.size W W') => rAbove ya ((nc k).map (yvR R)) yc y2 W' (ry.below hb) (by rw [List.length_map]; omega)
    rw [first_below (hs k)] at c1
    rw [above_upto (hs k)] at c2
    rw [List.length_map] at c1 c2
    have hle := below_le (yv := yvR R) (L := nc k) hy
    have hul := upto_len (yv := yvR R) (L := nc k) (y := y2)
    have k1 := bsrch_lk (fun i => decide (y1 ≤ ((nc k).map (yvR R)).getD i 0)) ((nc k).map (yvR R)).length
    have k2 := bsrch_lk (fun i => decide (y2 < ((nc k).map (yvR R)).getD i 0)) ((nc k).map (yvR R)).length
    have k1' : (rkFirst ((nc k).map (yvR R)) y1).2 ≤ 20000 := by unfold rkFirst; rw [List.length_map] at k1 ⊢; omega
    have k2' : (rkAbove ((nc k).map (yvR R)) y2).2 ≤ 20000 := by unfold rkAbove; rw [List.length_map] at k2 ⊢; omega
    unfold costC
    rw [ey, en]
    have HC1 := Lib.hid c1
    have HC2 := Lib.hid c2
    have HE3 := Lib.hid e3
    have HH := Lib.hid h2
    have HBX := Lib.hid hbb
    have H1 := Lib.hid h1
    have hnl : nb < W.heap.size := (Array.getElem?_eq_some_iff.1 h2).1
    have hbl2 : bb < W.heap.size := (Array.getElem?_eq_some_iff.1 hbb).1
    have hne : bb ≠ nb := blk_ne hbb h2 (by decide)
    generalize (rkFirst ((nc k).map (yvR R)) y1).2 = q1 at *
    generalize (rkAbove ((nc k).map (yvR R)) y2).2 = q2 at *
    generalize below (yvR R) y1 (nc k) = m1 at *
    generalize upto (yvR R) y2 (nc k) = m2 at *
    generalize (btw (yvR R) y1 y2 (nc k)).length = bl at *
    generalize (nc k).length = nl at *
    generalize hacl : acc.length = n at *
    have hnbl : n + bl ≤ 1000000 := by omega
    clear hA ey en hyr ry hF c1 c2 e3 h1 h2 hbb k1 k2 hs hl hFL hacl
    have e1 : (n : Int) + ((m2 : Int) - (m1 : Int)) = ((n + bl : Nat) : Int) := by omega
    show Calls Tryz.prog 81 #[.agg #[.slice ya nl yc, .slice na nl nc'], .pointer (some ⟨bb, 0, none⟩), .pointer (some ⟨nb, 0, none⟩)] W _
    obtain ⟨w1, ew1⟩ : ∃ w1, w1 = W.alloc (.cells #[.slice ya nl yc, .slice na nl nc'] 108) := ⟨_, rfl⟩
    have hb1 : Below W.heap.size W w1 := by rw [ew1]; exact (Below.refl _ _).alloc (Nat.le_refl _) _
    have hx1 : w1.heap[W.heap.size]? = some (.cells #[.slice ya nl yc, .slice na nl nc'] 108 (0, 0)) := by rw [ew1]; exact lit0 W _
    have cl0 : w1.cell? ⟨W.heap.size, 0, none⟩ = some (.slice ya nl yc) := by simp [World.cell?, hx1]
    have hbx1 := (hb1.block bb hbl2).trans HBX.out
    have cb2 : w1.cell? ⟨bb, 2, none⟩ = some (.int .i64 y1) := by simp [World.cell?, hbx1]
    have HB1 := Lib.hid hb1
    have HX1 := Lib.hid hx1
    clear hb1 hx1 hbx1
    go_enter Tryz.func81, Tryz.ntmps81
    go_upto_region 1 with fail
    rw [← ew1]
    clear ew1
    go_wp2_with fail
    refine (HC1.out w1 HB1.out).mono ?_
    rintro e w2 ⟨rfl, hb2⟩
    have HB2 := Lib.hid (HB1.out.trans (hb2.mono HB1.out.size))
    have hx2 := (hb2.block _ (Array.getElem?_eq_some_iff.1 HX1.out).1).trans HX1.out
    have cl0' : w2.cell? ⟨W.heap.size, 0, none⟩ = some (.slice ya nl yc) := by simp [World.cell?, hx2]
    have hbx2 := (HB2.out.block bb hbl2).trans HBX.out
    have cb3 : w2.cell? ⟨bb, 3, none⟩ = some (.int .i64 y2) := by simp [World.cell?, hbx2]
    clear cl0 cb2 hb2 hx2 hbx2 HX1
    go_wp2_with fail
    refine (HC2.out w2 HB2.out).mono ?_
    rintro e w3 ⟨rfl, hb3⟩
    have HB3 := Lib.hid (HB2.out.trans (hb3.mono HB2.out.size))
    have hn3 := (HB3.out.block nb hnl).trans HH.out
    have cn0 : w3.cell? ⟨nb, 0, none⟩ = some (.int .i64 n) := by simp [World.cell?, hn3]
    have zn0 : w3.frozen? ⟨nb, 0, none⟩ = false := by simp [World.frozen?, hn3]
    have HN3 := Lib.hid hn3
    clear cl0' cb3 hb3 hn3
    go_wp2
    go_ret
    have KF : KpS (fun k => k = nb) W (w3.setCell ⟨nb, 0, none⟩ (.int .i64 ((n + bl : Nat) : Int))) := ((KpS.refl _ W).below HB3.out).set (a := ⟨nb, 0, none⟩) _ (.inl rfl)
    refine ⟨by go_num, _, ⟨H1.out.trans (KF.toBelow H1.out.size (fun k h => by omega)), ?_, ?_, rfl⟩, fun k h => .inl h, KF⟩
    · exact (heap_setNe (Ne.symm hne)).trans ((HB3.out.block bb hbl2).trans HBX.out)
    · rw [HE3.out]
      exact heap_setCell_same w3 nb 0 _ _ _ HN3.out

def RepSB (bb ob : Nat) (x1 x2 y1 y2 bi : Int) (nm : Nat → Int) (w0 : World) (W : World) (acc : List Nat) (D : Nat → Prop) : Prop :=
  Below w0.heap.size w0 W ∧ W.heap[bb]? = some (.cells #[.int .i64 x1, .int .i64 x2, .int .i64 y1, .int .i64 y2, .int .u32 bi] 51 (0, 0)) ∧
    ∃ v, W.heap[ob]? = some (.cells #[v] 35 (0, 0)) ∧ W.ownsRow w0.heap.size 32 1 v acc.length ((acc.map nm).map (Value.int .u32)) ∧ D = fun k => k = ob ∨ v.ownBlock = some k

set_option maxRecDepth 100000 in
set_option maxHeartbeats 4000000 in
theorem rep_tldB {w0 : World} {lo hi tb fb cnt : Nat} {R : List Pt} {gone : List Bool} {nc : Nat → List Nat} {V : BndV} (hA : BndAt w0 lo hi tb fb R gone cnt nc V) (bb ob : Nat) (FL : List Nat) (hFL : FL.length ≤ 1000000) (hob : w0.heap.size ≤ ob) (x1 x2 y1 y2 bi : Int) (hy : y1 ≤ y2)
    (hs : ∀ k, (nc k).Pairwise fun i j => yvR R i ≤ yvR R j) (hl : ∀ k, (nc k).length ≤ 20000) :
    TldB 78 #[.pointer (some ⟨bb, 0, none⟩), .pointer (some ⟨ob, 0, none⟩)] (costR R y1 y2) (yvR R) y1 y2 (nds R.length).length nc V.LY V.LN w0 FL (RepSB bb ob x1 x2 y1 y2 bi (nmR R) w0) where
  enters := ent_brep
  base := fun W acc D h => h.1
  lt := fun W acc D h k hk => by
    obtain ⟨h1, hb, v, h2, h3, rfl⟩ := h
    rcases hk with rfl | hk
    · exact ⟨hob, (Array.getElem?_eq_some_iff.1 h2).1⟩
    · exact h3.lt k hk
  stable := fun W W' acc D h hb => by
    obtain ⟨h1, hbb, v, h2, h3, rfl⟩ := h
    exact ⟨h1.trans (hb.mono h1.size), (hb.block bb (Array.getElem?_eq_some_iff.1 hbb).1).trans hbb, v, (hb.block ob (Array.getElem?_eq_some_iff.1 h2).1).trans h2, ownsRow_below h3 hb, rfl⟩
  told := fun W acc D k h hk hF => by
    obtain ⟨h1, hbb, v, h2, h3, rfl⟩ := h
    have hyr := ownsRow_below (hA.yss k hk) h1
    obtain ⟨ya, yc, ey, -, -, ry⟩ := Rd.of_owns hyr
    rw [List.length_map] at ey
    have hnr := ownsRow_below (hA.nam k hk) h1
    obtain ⟨na, nc', en⟩ := rowV hnr
    have hyb := (hA.topL k hk).1
    have hnb := (hA.topL k hk).2
    have hhi := hA.tbr.2.2.2.2
    rw [ey] at hyr hyb
    rw [en] at hnr hnb
    have HYR := Lib.hid hyr
    have HNR := Lib.hid hnr
    have HYB := Lib.hid hyb
    have HNB := Lib.hid hnb
    have hbl := btw_len (hs k) y1 y2 hy
    have hll := hl k
    have hl2 := hF.length_le
    rw [List.length_append] at hl2
    have c1 := fun W' (hb : Below W.heap.size W W') => rFirst ya ((nc k).map (yvR R)) yc y1 W' (ry.below hb) (by rw [List.length_map]; omega)
    rw [first_below (hs k)] at c1
    rw [List.length_map] at c1
    have hle := below_le (yv := yvR R) (L := nc k) hy
    have hul := upto_len (yv := yvR R) (L := nc k) (y := y2)
    have k1 := bsrch_lk (fun i => decide (y1 ≤ ((nc k).map (yvR R)).getD i 0)) ((nc k).map (yvR R)).length
    have k1' : (rkFirst ((nc k).map (yvR R)) y1).2 ≤ 20000 := by unfold rkFirst; rw [List.length_map] at k1 ⊢; omega
    have HSL := Lib.hid (slice_btw (hs k) y1 y2 hy)
    have HUP := Lib.hid (fun j (hj : j < (nc k).length) => upto_at (y2 := y2) (hs k) hj)
    unfold costR
    rw [ey, en]
    have HC1 := Lib.hid c1
    have HBX := Lib.hid hbb
    have H1 := Lib.hid h1
    have hol : ob < W.heap.size := (Array.getElem?_eq_some_iff.1 h2).1
    have hbl2 : bb < W.heap.size := (Array.getElem?_eq_some_iff.1 hbb).1
    have hne : bb ≠ ob := blk_ne hbb h2 (by decide)
    have HVB : Hid (∀ gb, v.ownBlock = some gb → bb ≠ gb) := row_ne h3 hbb (by decide)
    have HVO : Hid (∀ gb, v.ownBlock = some gb → w0.heap.size ≤ gb ∧ gb < W.heap.size) := h3.lt
    have HOW := Lib.hid h3
    have HOB := Lib.hid h2
    have hwW : w0.heap.size ≤ W.heap.size := h1.size
    generalize (rkFirst ((nc k).map (yvR R)) y1).2 = q1 at *
    generalize hm1 : below (yvR R) y1 (nc k) = m1 at *
    generalize hm2 : upto (yvR R) y2 (nc k) = m2 at *
    generalize hB : btw (yvR R) y1 y2 (nc k) = BT at *
    generalize nc k = L at *
    have habt : acc.length + BT.length ≤ 1000000 := by omega
    clear hA ey en hyr ry hnr hyb hnb hF c1 h1 h2 h3 hbb k1 hs hl hFL hm1 hm2 hB
    obtain ⟨nl, hnl⟩ : ∃ nl, nl = L.length := ⟨_, rfl⟩
    have HNL := Lib.hid hnl
    rw [← hnl] at HC1 hll hul HYR HNR HYB HNB ⊢
    clear hnl
    obtain ⟨RES, hRES⟩ : ∃ RES, RES = q1 + BT.length + (if m2 < nl then 1 else 0) := ⟨_, rfl⟩
    rw [← hRES]
    have HRES := Lib.hid hRES
    clear hRES
    show Calls Tryz.prog 78 #[.agg #[.slice ya nl yc, .slice na nl nc'], .pointer (some ⟨bb, 0, none⟩), .pointer (some ⟨ob, 0, none⟩)] W _
    obtain ⟨w1, ew1⟩ : ∃ w1, w1 = W.alloc (.cells #[.slice ya nl yc, .slice na nl nc'] 108) := ⟨_, rfl⟩
    have hb1 : Below W.heap.size W w1 := by rw [ew1]; exact (Below.refl _ _).alloc (Nat.le_refl _) _
    have hx1 : w1.heap[W.heap.size]? = some (.cells #[.slice ya nl yc, .slice na nl nc'] 108 (0, 0)) := by rw [ew1]; exact lit0 W _
    have cl0 : w1.cell? ⟨W.heap.size, 0, none⟩ = some (.slice ya nl yc) := by simp [World.cell?, hx1]
    have hbx1 := (hb1.block bb hbl2).trans HBX.out
    have cb2 : w1.cell? ⟨bb, 2, none⟩ = some (.int .i64 y1) := by simp [World.cell?, hbx1]
    have HB1 := Lib.hid hb1
    have HX1 := Lib.hid hx1
    clear hb1 hx1 hbx1
    go_enter Tryz.func78, Tryz.ntmps78
    go_upto_region 1 with fail
    rw [← ew1]
    clear ew1
    go_wp2_with fail
    refine (HC1.out w1 HB1.out).mono ?_
    rintro e w2 ⟨rfl, hb2⟩
    have HB2 := Lib.hid (HB1.out.trans (hb2.mono HB1.out.size))
    have HX2 := Lib.hid ((hb2.block _ (Array.getElem?_eq_some_iff.1 HX1.out).1).trans HX1.out)
    have hW2 : W.heap.size < w2.heap.size := (Array.getElem?_eq_some_iff.1 HX2.out).1
    clear cl0 cb2 hb2 HX1 HC1
    go_wp2_with fail
    go_loopg [5, 6] nl (fun kx s5 s6 wr => ∃ (j n : Nat) (v' : Value), s5 = .int .i64 j ∧ m1 ≤ j ∧ j ≤ m2 ∧ nl - j ≤ kx ∧ s6 = .int .i64 n ∧ Hid (n = q1 + (j - m1)) ∧ Hid (wr.heap[ob]? = some (.cells #[v'] 35 (0, 0))) ∧ Hid (wr.ownsRow w0.heap.size 32 1 v' (acc ++ (L.take j).drop m1).length (((acc ++ (L.take j).drop m1).map (nmR R)).map (Value.int .u32))) ∧ Hid (KpS (fun k => k = ob ∨ v.ownBlock = some k) W wr) ∧ Hid (∀ gb, v'.ownBlock = some gb → v.ownBlock = some gb ∨ w2.heap.size ≤ gb) ∧ w2.heap.size ≤ wr.heap.size ∧ Hid (wr.heap[W.heap.size]? = some (.cells #[.slice ya nl yc, .slice na nl nc'] 108 (0, 0))))
    case atStart =>
      refine ⟨m1, q1, v, rfl, Nat.le_refl _, hle, by omega, rfl, ?_, ?_, ?_, (KpS.refl _ _).below HB2.out, fun gb h => .inl h, Nat.le_refl _, HX2⟩
      · show _ = _; omega
      · exact (HB2.out.block ob hol).trans HOB.out
      · show World.ownsRow _ _ _ _ _ _ _
        rw [List.drop_eq_nil_of_le (by rw [List.length_take]; omega), List.append_nil]
        exact ownsRow_below HOW.out HB2.out
    case round =>
      obtain ⟨j, n, v', rfl, hj1, hj2, hkx, rfl, HNN, HOr, HVr, HKr, HVN, hsz, HXr⟩ := hrel
      have fin : ∀ (n' : Nat) (W' : World), j = m2 → n' = RES → (∃ q, W' = wr.drewN q) → (Ending.returned (.int .i64 n') = .returned (.int .i64 RES)) ∧ ∃ D', RepSB bb ob x1 x2 y1 y2 bi (nmR R) w0 W' (acc ++ BT) D' ∧ (∀ k, D' k → (k = ob ∨ v.ownBlock = some k) ∨ W.heap.size ≤ k) ∧ KpS (fun k => k = ob ∨ v.ownBlock = some k) W W' := fun n' W' hjm hn hW' => by
        obtain ⟨q, rfl⟩ := hW'
        have e1 : acc ++ (L.take j).drop m1 = acc ++ BT := by rw [hjm, ← HSL.out]
        have KF : KpS (fun k => k = ob ∨ v.ownBlock = some k) W (wr.drewN q) := HKr.out.below (Below.drewAny _ q)
        refine ⟨by rw [hn], _, ⟨?_, ?_, v', HOr.out, by have h9 := HVr.out; rw [e1] at h9; exact h9, rfl⟩, fun k h => ?_, KF⟩
        · exact H1.out.trans (KF.toBelow hwW (fun k h => by
            rcases h with rfl | h
            · exact hob
            · exact (HVO.out k h).1))
        · exact blkK KF HBX.out (fun h => by
            rcases h with h | h
            · exact hne h
            · exact HVB.out _ h rfl)
        · rcases h with rfl | h
          · exact .inl (.inl rfl)
          · rcases HVN.out k h with h | h
            · exact .inl (.inr h)
            · exact .inr (by omega)
      have FIN := Lib.hid fin
      clear fin
      have hxr := HXr.out
      have l0 : wr.cell? ⟨W.heap.size, 0, none⟩ = some (.slice ya nl yc) := by simp [World.cell?, hxr]
      have l1 : wr.cell? ⟨W.heap.size, 1, none⟩ = some (.slice na nl nc') := by simp [World.cell?, hxr]
      have hbr := blkK HKr.out HBX.out (fun h => by
            rcases h with h | h
            · exact hne h
            · exact HVB.out _ h rfl)
      have b3 : wr.cell? ⟨bb, 3, none⟩ = some (.int .i64 y2) := by simp [World.cell?, hbr]
      have hblr := (Array.getElem?_eq_some_iff.1 hbr).1
      have hxlr := (Array.getElem?_eq_some_iff.1 hxr).1
      have hnb : n ≤ 50000 := by have := HNN.out; omega
      clear hbr hxr
      by_cases hjl : j < nl
      · have hjL : j < L.length := by rw [← HNL.out]; exact hjl
        have hup := HUP.out j hjL
        have hSB : ∀ gb, gb < hi → ¬ (gb = ob ∨ v.ownBlock = some gb) := fun gb h h2 => by
          rcases h2 with h2 | h2
          · omega
          · have := (HVO.out gb h2).1; omega
        have hyr := rowK HYR.out HKr.out (fun gb e => hSB gb (HYB.out gb e))
        have hnr := rowK HNR.out HKr.out (fun gb e => hSB gb (HNB.out gb e))
        obtain ⟨gy, cy, ey, _, hgy, hcy, hcm⟩ := ownRow_at hyr (by omega)
        injection ey with ey ey2 ey3
        subst ey
        have y0 := hyr.cellAt j (by omega)
        rw [List.getElem?_map, List.getElem?_map, List.getElem?_eq_getElem hjL] at y0
        simp only [Option.map_some] at y0
        obtain ⟨gn, cn, en, _, hgn, hcn, hcm2⟩ := ownRow_at hnr (by omega)
        injection en with en en2 en3
        subst en
        have z0 := hnr.cellAt j (by omega)
        rw [List.getElem?_map, List.getElem?_map, List.getElem?_eq_getElem hjL] at z0
        simp only [Option.map_some] at z0
        have HTK : Hid ((L.take (j + 1)).drop m1 = (L.take j).drop m1 ++ [L[j]]) := by
          show _ = _
          rw [List.take_succ_eq_append_getElem hjL, List.drop_append_of_le_length (by rw [List.length_take]; omega)]
        clear ey2 ey3 en2 en3 hyr hnr
        generalize yvR R L[j] = y at *
        generalize hnx : nmR R L[j] = x at *
        have HNX := Lib.hid hnx
        clear hnx
        have hlr := (Array.getElem?_eq_some_iff.1 HOr.out).1
        by_cases hjm : j < m2
        · have hyy := hup.2 hjm
          have d1 : decide (y > y2) = false := by simp; omega
          have d2 : decide (y2 < y) = false := by simp; omega
          clear hup hyy FIN
          go_wp2_with fail
          go_quiet (fail)
          obtain ⟨w5, ew5⟩ : ∃ w5, w5 = wr.drewN nq := ⟨_, rfl⟩
          have hb5 : Below wr.heap.size wr w5 := by rw [ew5]; exact Below.drewAny _ _
          go_upto_region 6 with fail
          rw [← ew5]
          have ho5 : w5.heap[ob]? = some (.cells #[v'] 35 (0, 0)) := by rw [ew5]; exact HOr.out
          have hv5 : w5.ownsRow w0.heap.size 32 1 v' (acc ++ (L.take j).drop m1).length (((acc ++ (L.take j).drop m1).map (nmR R)).map (Value.int .u32)) := by rw [ew5]; exact HVr.out
          have hx5 : w5.heap[W.heap.size]? = some (.cells #[.slice (some ⟨gy, 0, none⟩) nl yc, .slice (some ⟨gn, 0, none⟩) nl nc'] 108 (0, 0)) := by rw [ew5]; exact HXr.out
          have hz5 : w5.cell? ⟨gn, j, none⟩ = some (.int .u32 x) := by rw [ew5]; exact z0
          have hs5 : wr.heap.size ≤ w5.heap.size := by rw [ew5]; exact Nat.le_refl _
          have hs5' : w5.heap.size ≤ wr.heap.size := by rw [ew5]; exact Nat.le_refl _
          have hK5 : KpS (fun k => k = ob ∨ v.ownBlock = some k) W w5 := HKr.out.below hb5
          clear ew5 y0 z0 l0 l1 b3 HOr HXr
          obtain ⟨va, vc, rfl⟩ := rowV hv5
          have hal : (acc ++ (L.take j).drop m1).length ≤ 1000000 := by
            have h9 : BT.length = m2 - m1 := by omega
            rw [List.length_append, List.length_drop, List.length_take]
            omega
          generalize hAL : acc ++ (L.take j).drop m1 = A at *
          have g0 := cell_belowW (w := w5) (ad := ⟨ob, 0, none⟩) (v := .slice va A.length vc) (by simp [World.cell?, ho5])
          have g1 := cell_belowW (w := w5) (ad := ⟨W.heap.size, 1, none⟩) (v := .slice (some ⟨gn, 0, none⟩) nl nc') (by simp [World.cell?, hx5])
          have g2 := cell_belowW hz5
          have HO5 := Lib.hid ho5
          have HV5 := Lib.hid hv5
          have HX5 := Lib.hid hx5
          have HK5 := Lib.hid hK5
          have HVOB : Hid (∀ gb, (Value.slice va A.length vc).ownBlock = some gb → ob ≠ gb) := row_ne hv5 ho5 (by decide)
          have HVXB : Hid (∀ gb, (Value.slice va A.length vc).ownBlock = some gb → W.heap.size ≠ gb) := row_ne hv5 hx5 (by decide)
          have hol5 : ob < w5.heap.size := by omega
          clear ho5 hv5 hx5 hK5 hz5
          refine wp_region_head (fun W => ∃ p : BelowW w5, W = p.W) [7, 8] [(0, true), (1, false), (2, true), (3, false), (4, false), (5, true)] (by kernel_rfl) (by kernel_rfl) (fun _ _ d _ _ h => by cases d <;> exact h) ⟨⟨_, (Below.refl _ _).drew⟩, rfl⟩ 3 rfl (by kernel_rfl) ?_
          simp only [pickB, List.filterMap_cons, List.filterMap_nil, List.getElem?_toArray, List.getElem?_cons_succ, List.getElem?_cons_zero, Option.map_some]
          repeat (refine wpHd_step (fun K hK => ?_); go_simp; first | (refine hK _ ?_; clear hK K) | (apply Exists.intro; refine ⟨fun _ => ?_, hK _ ?_⟩; rfl; clear hK K))
          refine wpHd_nil ?_
          refine wpAnyT_ready [6] (by kernel_rfl) (by simp) ?_
          refine AllReadyT.cons rfl (fun K hK => ?_) AllReadyT.nil
          go_simp
          refine hK _ _ (fun _ _ => ⟨⟨_, (Below.refl _ w5).alloc (Nat.le_refl _) _ |>.drew⟩, rfl⟩) ?_
          clear hK K
          refine wpAnyT_ready [7] (by kernel_rfl) (by simp) ?_
          refine AllReadyT.cons rfl (fun K hK => ?_) AllReadyT.nil
          refine step_append1E elU32 w0.heap.size (w := (w5.alloc (.cells #[.int .u32 x] 32)).drew) (ownsRow_below HV5.out ((Below.refl _ w5).alloc (Nat.le_refl _) _ |>.drew)) [.int .u32 x] rfl (by simp [Value.oneCell']) rfl (.tmp 32) (.tmp 38) rfl rfl w5.heap.size rfl (lit0d _ _) (by unfold maxLen; omega) (by omega) (by simp; omega) ?_
          intro gA capA w8 hown8 hg8 hblk8 hlt8
          refine hK _ _ (fun _ h => absurd (by simp) h) ?_
          clear hK K
          refine wpAnyT_line [8] _ _ _ (by kernel_rfl) ?_
          simp only [pick, List.filterMap_cons, List.filterMap_nil, List.getElem?_toArray, List.getElem?_cons_succ, List.getElem?_cons_zero]
          have hg58 : w5.grownBy w8 (Value.slice va A.length vc).ownBlock := grownBy_trans (below_asGrown ((Below.refl _ w5).alloc (Nat.le_refl _) _ |>.drew)) hg8
          have KA8 : KpS (fun k => (Value.slice va A.length vc).ownBlock = some k) w5 w8 := (KpS.refl _ w5).grown hg58 (fun k hk => .inl hk)
          have ho8 := blkK KA8 HO5.out (fun h => HVOB.out ob h rfl)
          have hx8 := blkK KA8 HX5.out (fun h => HVXB.out _ h rfl)
          have q8 : w8.cell? ⟨ob, 0, none⟩ = some (.slice va A.length vc) := by simp [World.cell?, ho8]
          have f8 : w8.frozen? ⟨ob, 0, none⟩ = false := by simp [World.frozen?, ho8]
          have hs8 : w5.heap.size ≤ w8.heap.size := KA8.size
          have hgA : gA ≠ ob := fun e => by
            rcases hblk8 with h | h
            · exact HVOB.out gA h e.symm
            · have h7 : gA = w5.heap.size + 1 := by rw [h]; show (w5.alloc _).heap.size = _; simp
              omega
          have HBK8 : Hid ((Value.slice va A.length vc).ownBlock = some gA ∨ w5.heap.size ≤ gA) := hblk8.imp id fun h => by
            have h7 : gA = w5.heap.size + 1 := by rw [h]; show (w5.alloc _).heap.size = _; simp
            omega
          have HO9 : Hid ((w8.setCell ⟨ob, 0, none⟩ (.slice (some ⟨gA, 0, none⟩) (A.length + 1) capA)).heap[ob]? = some (.cells #[.slice (some ⟨gA, 0, none⟩) (A.length + 1) capA] 35 (0, 0))) := heap_setCell_same w8 ob 0 _ _ _ ho8
          have HX9 : Hid ((w8.setCell ⟨ob, 0, none⟩ (.slice (some ⟨gA, 0, none⟩) (A.length + 1) capA)).heap[W.heap.size]? = some (.cells #[.slice (some ⟨gy, 0, none⟩) nl yc, .slice (some ⟨gn, 0, none⟩) nl nc'] 108 (0, 0))) := (heap_setNe (show ob ≠ W.heap.size by omega)).trans hx8
          have HV9 : Hid ((w8.setCell ⟨ob, 0, none⟩ (.slice (some ⟨gA, 0, none⟩) (A.length + 1) capA)).ownsRow w0.heap.size 32 1 (.slice (some ⟨gA, 0, none⟩) (A.length + 1) capA) (A.length + 1) ((A.map (nmR R)).map (Value.int .u32) ++ [.int .u32 x])) :=
            rowK (S := fun k => k = ob) hown8 ((KpS.refl (fun k => k = ob) w8).set (a := ⟨ob, 0, none⟩) _ (.inl rfl)) (fun g h h2 => hgA (Eq.trans (show gA = g from Option.some.inj h) h2))
          have HK9 : Hid (KpS (fun k => k = ob ∨ v.ownBlock = some k) W (w8.setCell ⟨ob, 0, none⟩ (.slice (some ⟨gA, 0, none⟩) (A.length + 1) capA))) := by
            have h9 := (HK5.out.mono (S' := fun k => (k = ob ∨ v.ownBlock = some k) ∨ W.heap.size ≤ k) (fun k h => .inl h)).trans (KA8.mono (fun k h => (HVN.out k h).elim (fun h => .inl (.inr h)) (fun h => .inr (by omega))))
            exact h9.strip.set (a := ⟨ob, 0, none⟩) _ (.inl (.inl rfl))
          clear KA8 hg58 hg8 hown8 ho8 hx8 g0 g1 g2 hblk8
          go_wp2
          go_roundg (nl - (j + 1))
          case measure => omega
          case rel =>
            have e9 : acc ++ (L.take (j + 1)).drop m1 = A ++ [L[j]] := by rw [HTK.out, ← hAL, List.append_assoc]
            refine ⟨j + 1, n + 1, _, by go_num, by omega, by omega, Nat.le_refl _, by go_num, ?_, HO9, ?_, HK9, ?_, ?_, HX9⟩
            · show _ = _; have := HNN.out; omega
            · show World.ownsRow _ _ _ _ _ _ _
              rw [e9, List.length_append, List.map_append, List.map_append]
              simp only [List.map_cons, List.map_nil, HNX.out]
              exact HV9.out
            · intro gb e
              have e9 : gA = gb := Option.some.inj e
              rcases HBK8.out with h | h
              · exact HVN.out _ (e9 ▸ h)
              · exact .inr (by omega)
            · simp; omega
        · have hjm2 : j = m2 := by omega
          have hyy : y2 < y := by
            by_cases e : y ≤ y2
            · exact absurd (hup.1 e) hjm
            · omega
          have d1 : decide (y > y2) = true := by simp; omega
          have d2 : decide (y2 < y) = true := by simp; omega
          have F := Lib.hid (fun q => FIN.out (n + 1) (wr.drewN q) hjm2 (by rw [HRES.out, if_pos (by omega)]; have h9 := HNN.out; have h8 : BT.length = m2 - m1 := by omega
                                                                            omega) ⟨q, rfl⟩)
          clear hup hyy FIN hjm hjm2
          go_wp2_with fail
          go_quiet (fail)
          go_wp2
          go_ret
          have h9 := F.out nq
          simp only [Int.natCast_add, Int.natCast_one] at h9 ⊢
          exact h9
      · have hjm : j = m2 := by omega
        have hm : ¬ m2 < nl := by omega
        have F := FIN.out n wr hjm (by rw [HRES.out, if_neg hm]; have h9 := HNN.out; have h8 : BT.length = m2 - m1 := by omega
                                       omega) ⟨0, rfl⟩
        have HF := Lib.hid F
        clear F
        go_wp2
        go_ret
        exact HF.out


set_option maxRecDepth 100000 in
set_option maxHeartbeats 4000000 in
theorem band_count {w : World} {lo hi tb fb cnt : Nat} {R : List Pt} {gone : List Bool} {YS : List Nat} {V : BndV} (hA : BndAt w lo hi tb fb R gone cnt (lk (nds R.length) YS) V) (hW : CscWF R gone YS) (hR : R.length ≤ 20000) (x1 x2 y1 y2 bi : Int) :
    Calls Tryz.prog 30 #[.pointer (some ⟨tb, 0, none⟩), .agg #[.int .i64 x1, .int .i64 x2, .int .i64 y1, .int .i64 y2, .int .u32 bi]] w fun e w' =>
      e = .returned (.tuple #[.int .i64 (bandR (costC R y1 y2) R YS x1 x2 y1 y2).1.length, .int .i64 (bandR (costC R y1 y2) R YS x1 x2 y1 y2).2]) ∧ Below w.heap.size w w' := by
  obtain ⟨w1, ew1⟩ : ∃ w1, w1 = (w.alloc (.cells #[.int .i64 x1, .int .i64 x2, .int .i64 y1, .int .i64 y2, .int .u32 bi] 51)).alloc (.cells #[.int .i64 0] 3) := ⟨_, rfl⟩
  have hb1 : Below w.heap.size w w1 := by rw [ew1]; exact ((Below.refl _ _).alloc (Nat.le_refl _) _).alloc (by simp) _
  have ho1 : w1.heap[w.heap.size + 1]? = some (.cells #[.int .i64 0] 3 (0, 0)) := by rw [ew1]; exact lit2 w _ _
  have hx1 : w1.heap[w.heap.size]? = some (.cells #[.int .i64 x1, .int .i64 x2, .int .i64 y1, .int .i64 y2, .int .u32 bi] 51 (0, 0)) := by rw [ew1]; exact lit1 w _ _
  have hS : CntSB w.heap.size (w.heap.size + 1) x1 x2 y1 y2 bi w w1 [] (fun k => k = w.heap.size + 1) := ⟨hb1, hx1, ho1, rfl⟩
  have hYl := hW.lenY
  have hcost := (bandR_cost hW (by omega) x1 x2 y1 y2).2
  have hbl : Lib.bitLen R.length ≤ 15 := Nat.le_trans (bitLen_mono hR (by omega)) (by decide)
  have hbb : Lib.bitLen R.length * Lib.bitLen R.length ≤ 15 * 15 := Nat.mul_le_mul hbl hbl
  have hlen : (bandR (costC R y1 y2) R YS x1 x2 y1 y2).1.length ≤ R.length := nodup_ltR (bandR_nodup _ hW x1 x2 y1 y2) fun k hk => hW.lt ((bandR_mem _ hW x1 x2 y1 y2 k).1 hk).1
  have CA := band_each 81 #[.pointer (some ⟨w.heap.size, 0, none⟩), .pointer (some ⟨w.heap.size + 1, 0, none⟩)] (costC R y1 y2) R gone YS cnt V lo hi tb fb w w1 (CntSB w.heap.size (w.heap.size + 1) x1 x2 y1 y2 bi w) _ x1 x2 y1 y2 bi hA hR hb1
    (fun W' hb => by
      obtain ⟨g1, g2, g3, g4⟩ := hS
      exact ⟨g1.trans (hb.mono hb1.size), (hb.block _ (Array.getElem?_eq_some_iff.1 g2).1).trans g2, (hb.block _ (Array.getElem?_eq_some_iff.1 g3).1).trans g3, g4⟩)
    (fun hy => cnt_tldB hA w.heap.size (w.heap.size + 1) _ (by omega) (by omega) x1 x2 y1 y2 bi hy (fun k => hW.le.sublist (lk_sub k)) (fun k => by have := lk_len (N := nds R.length) (YS := YS) k; omega)) hS (by omega)
  generalize bandR (costC R y1 y2) R YS x1 x2 y1 y2 = r at *
  have HCA := Lib.hid CA
  have c0 : w1.cell? ⟨w.heap.size, 0, none⟩ = some (.int .i64 x1) := by simp [World.cell?, hx1]
  have c1 : w1.cell? ⟨w.heap.size, 1, none⟩ = some (.int .i64 x2) := by simp [World.cell?, hx1]
  have c2 : w1.cell? ⟨w.heap.size, 2, none⟩ = some (.int .i64 y1) := by simp [World.cell?, hx1]
  have c3 : w1.cell? ⟨w.heap.size, 3, none⟩ = some (.int .i64 y2) := by simp [World.cell?, hx1]
  have c4 : w1.cell? ⟨w.heap.size, 4, none⟩ = some (.int .u32 bi) := by simp [World.cell?, hx1]
  have HB1 := Lib.hid hb1
  clear CA hS hx1 ho1 hb1 hA hlen hcost hbb hbl hYl hW
  go_enter Tryz.func30, Tryz.ntmps30
  go_wp2_with fail
  rw [← ew1]
  clear ew1
  refine HCA.out.mono ?_
  rintro e w2 ⟨rfl, D', ⟨hb2, hx2, ho2, rfl⟩, hD, hK⟩
  have HB2 := Lib.hid hb2
  have k0 : w2.cell? ⟨w.heap.size + 1, 0, none⟩ = some (.int .i64 r.1.length) := by simp [World.cell?, ho2]
  clear hb2 ho2 hx2 hK hD HCA
  go_wp2
  go_ret2
  exact ⟨rfl, HB2.out⟩

def RepPB (w : World) (R : List Pt) (r : List Nat × Nat) (e : Ending) (w' : World) : Prop :=
  ∃ v, e = .returned (.tuple #[v, .int .i64 (r.2 : Nat)]) ∧ w'.ownsRow w.heap.size 32 1 v r.1.length ((srtI (r.1.map (nmR R))).map (Value.int .u32)) ∧ Below w.heap.size w w'

set_option maxRecDepth 100000 in
set_option maxHeartbeats 4000000 in
theorem band_report {w : World} {lo hi tb fb cnt : Nat} {R : List Pt} {gone : List Bool} {YS : List Nat} {V : BndV} (hA : BndAt w lo hi tb fb R gone cnt (lk (nds R.length) YS) V) (hW : CscWF R gone YS) (hR : R.length ≤ 20000) (x1 x2 y1 y2 bi : Int) :
    Calls Tryz.prog 28 #[.pointer (some ⟨tb, 0, none⟩), .agg #[.int .i64 x1, .int .i64 x2, .int .i64 y1, .int .i64 y2, .int .u32 bi]] w (RepPB w R (bandR (costR R y1 y2) R YS x1 x2 y1 y2)) := by
  obtain ⟨w1, ew1⟩ : ∃ w1, w1 = (w.alloc (.cells #[.int .i64 x1, .int .i64 x2, .int .i64 y1, .int .i64 y2, .int .u32 bi] 51)).alloc (.cells #[.slice none 0 0] 35) := ⟨_, rfl⟩
  have hb1 : Below w.heap.size w w1 := by rw [ew1]; exact ((Below.refl _ _).alloc (Nat.le_refl _) _).alloc (by simp) _
  have ho1 : w1.heap[w.heap.size + 1]? = some (.cells #[.slice none 0 0] 35 (0, 0)) := by rw [ew1]; exact lit2 w _ _
  have hx1 : w1.heap[w.heap.size]? = some (.cells #[.int .i64 x1, .int .i64 x2, .int .i64 y1, .int .i64 y2, .int .u32 bi] 51 (0, 0)) := by rw [ew1]; exact lit1 w _ _
  have hS : RepSB w.heap.size (w.heap.size + 1) x1 x2 y1 y2 bi (nmR R) w w1 [] (fun k => k = w.heap.size + 1 ∨ (Value.slice none 0 0).ownBlock = some k) := ⟨hb1, hx1, .slice none 0 0, ho1, World.ownsRow_nil _ _ _ _, rfl⟩
  have hYl := hW.lenY
  have hcost := (bandR_cost hW (by omega) x1 x2 y1 y2).1.2
  have hbl : Lib.bitLen R.length ≤ 15 := Nat.le_trans (bitLen_mono hR (by omega)) (by decide)
  have hbb : Lib.bitLen R.length * Lib.bitLen R.length ≤ 15 * 15 := Nat.mul_le_mul hbl hbl
  have hlen : (bandR (costR R y1 y2) R YS x1 x2 y1 y2).1.length ≤ R.length := nodup_ltR (bandR_nodup _ hW x1 x2 y1 y2) fun k hk => hW.lt ((bandR_mem _ hW x1 x2 y1 y2 k).1 hk).1
  have CA := band_each 78 #[.pointer (some ⟨w.heap.size, 0, none⟩), .pointer (some ⟨w.heap.size + 1, 0, none⟩)] (costR R y1 y2) R gone YS cnt V lo hi tb fb w w1 (RepSB w.heap.size (w.heap.size + 1) x1 x2 y1 y2 bi (nmR R) w) _ x1 x2 y1 y2 bi hA hR hb1
    (fun W' hb => by
      obtain ⟨g1, g2, v, g3, g4, g5⟩ := hS
      exact ⟨g1.trans (hb.mono hb1.size), (hb.block _ (Array.getElem?_eq_some_iff.1 g2).1).trans g2, v, (hb.block _ (Array.getElem?_eq_some_iff.1 g3).1).trans g3, ownsRow_below g4 hb, g5⟩)
    (fun hy => rep_tldB hA w.heap.size (w.heap.size + 1) _ (by omega) (by omega) x1 x2 y1 y2 bi hy (fun k => hW.le.sublist (lk_sub k)) (fun k => by have := lk_len (N := nds R.length) (YS := YS) k; omega)) hS (by omega)
  generalize bandR (costR R y1 y2) R YS x1 x2 y1 y2 = r at *
  have HCA := Lib.hid CA
  have c0 : w1.cell? ⟨w.heap.size, 0, none⟩ = some (.int .i64 x1) := by simp [World.cell?, hx1]
  have c1 : w1.cell? ⟨w.heap.size, 1, none⟩ = some (.int .i64 x2) := by simp [World.cell?, hx1]
  have c2 : w1.cell? ⟨w.heap.size, 2, none⟩ = some (.int .i64 y1) := by simp [World.cell?, hx1]
  have c3 : w1.cell? ⟨w.heap.size, 3, none⟩ = some (.int .i64 y2) := by simp [World.cell?, hx1]
  have c4 : w1.cell? ⟨w.heap.size, 4, none⟩ = some (.int .u32 bi) := by simp [World.cell?, hx1]
  have HB1 := Lib.hid hb1
  have hrl : r.1.length ≤ 40000 := by omega
  clear CA hS hx1 ho1 hb1 hA hlen hcost hbb hbl hYl hW
  go_enter Tryz.func28, Tryz.ntmps28
  go_wp2_with fail
  rw [← ew1]
  clear ew1
  refine HCA.out.mono ?_
  rintro e w2 ⟨rfl, D', ⟨hb2, hx2, v, ho2, hv2, rfl⟩, hD, hK⟩
  have HV2 := Lib.hid hv2
  have HB2 := Lib.hid hb2
  have k0 : w2.cell? ⟨w.heap.size + 1, 0, none⟩ = some v := by simp [World.cell?, ho2]
  have HVO : Hid (∀ gb, v.ownBlock = some gb → w.heap.size + 1 ≠ gb) := row_ne hv2 ho2 (by decide)
  have hol := (Array.getElem?_eq_some_iff.1 ho2).1
  have CS := Lib.hid (sortU32 (l := r.1.map (nmR R)) hv2 (by omega))
  obtain ⟨va, vc, rfl⟩ := rowV hv2
  clear hv2 hb2 ho2 hx2 hK hD HCA
  go_wp2_with fail
  refine CS.out.mono ?_
  rintro e w3 ⟨rfl, hv3, hK3⟩
  have HV3 := Lib.hid hv3
  have k3 : w3.cell? ⟨w.heap.size + 1, 0, none⟩ = some (.slice va r.1.length vc) := ((cellK hK3 hol (fun h => HVO.out _ h rfl)).1 0).trans k0
  have HK3 : Hid (Below w.heap.size w w3) := HB2.out.trans (hK3.toBelow HB2.out.size (fun k h => (HV2.out.lt k h).1))
  clear hv3 hK3 k0 CS
  go_wp2
  go_ret2
  exact ⟨_, rfl, HV3.out, HK3.out⟩
end Go.Proofs.YthpgkldpbbajfaaGreat
