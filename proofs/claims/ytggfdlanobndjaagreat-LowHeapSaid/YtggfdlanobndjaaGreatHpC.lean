/- heap.asked, Three, Any. -/
import Derived.Test.YtggfdlanobndjaaGreatHpB
import Derived.Test.YtggfdlanobndjaaGreatQ4
import Derived.Test.YtggfdlanobndjaaGreatQ3
namespace Go.Proofs.YtggfdlanobndjaaGreat
open Go.RowKit Go.Sort Go.Shelf Go.Lib Go.Maps
attribute [local irreducible] wpQuiet
attribute [local go_sem] Oper.still1
set_option linter.unusedSimpArgs false
set_option linter.unusedVariables false

/-! ### What the closures do -/
def AnyS (ob : Nat) (w0 : World) (W : World) (acc : List Nat) (D : Nat → Prop) : Prop :=
  Below w0.heap.size w0 W ∧ W.heap[ob]? = some (.cells #[.bool (decide (0 < acc.length))] 4 (0, 0)) ∧ D = fun k => k = ob
def ThrS (ob : Nat) (R : List Pt) (w0 : World) (W : World) (acc : List Nat) (D : Nat → Prop) : Prop :=
  Below w0.heap.size w0 W ∧ ∃ v, W.heap[ob]? = some (.cells #[v] 40 (0, 0)) ∧ W.ownsRow w0.heap.size 32 1 v acc.length ((acc.map (nmR R)).map (Value.int .u32)) ∧ D = fun k => k = ob ∨ v.ownBlock = some k

theorem ent_hany : ∀ args w, (callFunc 61 args).run Tryz.prog w = .ok (.enter 61 args) w := enters_of Tryz.func61 (by kernel_rfl) rfl
theorem ent_hthree : ∀ args w, (callFunc 59 args).run Tryz.prog w = .ok (.enter 59 args) w := enters_of Tryz.func59 (by kernel_rfl) rfl

set_option maxRecDepth 100000 in
theorem any_told (R : List Pt) (ob : Nat) (w0 : World) (FL : List Nat) (hob : w0.heap.size ≤ ob) :
    TldH 61 #[.pointer (some ⟨ob, 0, none⟩)] false R w0 FL (AnyS ob w0) where
  enters := ent_hany
  base := fun W acc D h => h.1
  lt := fun W acc D h k hk => by
    obtain ⟨h1, h2, rfl⟩ := h
    have := (Array.getElem?_eq_some_iff.1 h2).1
    subst hk
    exact ⟨hob, this⟩
  stable := fun W W' acc D E h hK hE => by
    obtain ⟨h1, h2, rfl⟩ := h
    exact ⟨h1.trans (hK.toBelow h1.size (fun k hk => (hE k hk).1)), (hK.block ob (Array.getElem?_eq_some_iff.1 h2).1 (fun h9 => (hE ob h9).2 rfl)).trans h2, rfl⟩
  told := fun W acc D i h hi hF => by
    obtain ⟨h1, h2, rfl⟩ := h
    have HH := Lib.hid h2
    have H1 := Lib.hid h1
    have z0 : W.frozen? ⟨ob, 0, none⟩ = false := by simp [World.frozen?, h2]
    have c0 : W.cell? ⟨ob, 0, none⟩ = some (.bool (decide (0 < acc.length))) := by simp [World.cell?, h2]
    have hol : ob < W.heap.size := (Array.getElem?_eq_some_iff.1 h2).1
    have HK : Hid (∀ o v, KpS (fun k => k = ob) W ((W.setCell ⟨ob, 0, none⟩ v).alloc o)) := fun o v => ((KpS.refl (fun k => k = ob) W).set (a := ⟨ob, 0, none⟩) _ (.inl rfl)).alloc _
    have HS : Hid (∀ o, ((W.setCell ⟨ob, 0, none⟩ (.bool true)).alloc o).heap[ob]? = some (.cells #[.bool (decide (0 < (acc ++ [i]).length))] 4 (0, 0))) := fun o => by
      have e : decide (0 < (acc ++ [i]).length) = true := by simp
      rw [e]
      exact (Below.heap_alloc _ _ _ (by simpa using hol)).trans (heap_setCell_same _ ob 0 _ _ _ HH.out)
    clear hF h1 h2
    generalize ptAt R i = p
    obtain ⟨px, py, pi⟩ := p
    show Calls Tryz.prog 61 #[vPt px py pi, .pointer (some ⟨ob, 0, none⟩)] W _
    go_enter Tryz.func61, Tryz.ntmps61
    go_wp2
    go_ret
    exact ⟨rfl, _, ⟨H1.out.trans ((HK.out _ _).toBelow H1.out.size (fun k h => by omega)), HS.out _, rfl⟩, fun k h => .inl h, HK.out _ _⟩

set_option maxRecDepth 100000 in
theorem three_told (R : List Pt) (ob : Nat) (w0 : World) (FL : List Nat) (hFL : FL.length ≤ 1000000) (hob : w0.heap.size ≤ ob) :
    TldH 59 #[.pointer (some ⟨ob, 0, none⟩)] true R w0 FL (ThrS ob R w0) where
  enters := ent_hthree
  base := fun W acc D h => h.1
  lt := fun W acc D h k hk => by
    obtain ⟨h1, v, h2, h3, rfl⟩ := h
    rcases hk with rfl | hk
    · exact ⟨hob, (Array.getElem?_eq_some_iff.1 h2).1⟩
    · exact h3.lt k hk
  stable := fun W W' acc D E h hK hE => by
    obtain ⟨h1, v, h2, h3, rfl⟩ := h
    exact ⟨h1.trans (hK.toBelow h1.size (fun k hk => (hE k hk).1)), v, (hK.block ob (Array.getElem?_eq_some_iff.1 h2).1 (fun h9 => (hE ob h9).2 (.inl rfl))).trans h2, rowK h3 hK (fun g e h9 => (hE g h9).2 (.inr e)), rfl⟩
  told := fun W acc D i h hi hF => by
    obtain ⟨h1, v, h2, h3, rfl⟩ := h
    have hl2 := hF.length_le
    rw [List.length_append, List.length_singleton] at hl2
    have hnm : (ptAt R i).2.2 = nmR R i := rfl
    have HNM : Hid ((((acc ++ [i]).map (nmR R)).map (Value.int .u32)) = ((acc.map (nmR R)).map (Value.int .u32)) ++ [.int .u32 (ptAt R i).2.2]) := by
      show _ = _
      rw [List.map_append, List.map_append]; rfl
    have HLN : Hid ((acc ++ [i]).length = acc.length + 1) := by show _ = _; simp
    generalize ptAt R i = p at *
    obtain ⟨px, py, pi⟩ := p
    obtain ⟨va, vc, rfl⟩ := rowV h3
    have hol : ob < W.heap.size := (Array.getElem?_eq_some_iff.1 h2).1
    obtain ⟨n, hn⟩ : ∃ n, n = acc.length := ⟨_, rfl⟩
    rw [← hn] at h2 h3 hl2 HLN ⊢
    obtain ⟨w1, ew1⟩ : ∃ w1, w1 = W.alloc (.cells #[.int .i64 px, .int .i64 py, .int .u32 pi] 34) := ⟨_, rfl⟩
    have hb1 : Below W.heap.size W w1 := by rw [ew1]; exact (Below.refl _ _).alloc (Nat.le_refl _) _
    have hxb : w1.heap[W.heap.size]? = some (.cells #[.int .i64 px, .int .i64 py, .int .u32 pi] 34 (0, 0)) := by rw [ew1]; exact lit0 W _
    have ho1 := (hb1.block ob hol).trans h2
    have c0 : w1.cell? ⟨ob, 0, none⟩ = some (.slice va n vc) := by simp [World.cell?, ho1]
    have c1 : w1.cell? ⟨W.heap.size, 2, none⟩ = some (.int .u32 pi) := by simp [World.cell?, hxb]
    have HOW : Hid (w1.ownsRow w0.heap.size 32 1 (.slice va n vc) n ((acc.map (nmR R)).map (Value.int .u32))) := ownsRow_below h3 hb1
    have HOB := Lib.hid ho1
    have HB1 := Lib.hid hb1
    have H1 := Lib.hid h1
    have hBW : w0.heap.size ≤ w1.heap.size := Nat.le_trans h1.size hb1.size
    have hw1 : ob < w1.heap.size := Nat.lt_of_lt_of_le hol hb1.size
    have HVO := Lib.hid h3.lt
    have hvob : ∀ gb, (Value.slice va n vc).ownBlock = some gb → ob ≠ gb := row_ne h3 h2 (by decide)
    have HVOB := Lib.hid hvob
    clear hF h1 h2 h3 hxb ho1 hb1 hvob hn hnm
    show Calls Tryz.prog 59 #[vPt px py pi, .pointer (some ⟨ob, 0, none⟩)] W _
    go_enter Tryz.func59, Tryz.ntmps59
    go_upto_region 1 with fail
    rw [← ew1]
    clear ew1
    go_upto_region 1 with fail
    have KGf : Hid (∀ (v' : Value) (w2 : World), w1.grownBy w2 (Value.slice va n vc).ownBlock → w2.heap[ob]? = some (.cells #[.slice va n vc] 40 (0, 0)) ∧ KpS (fun k => k = ob ∨ (Value.slice va n vc).ownBlock = some k) W w2) := fun v' w2 hg2 => by
      have KG : KpS (fun k => (Value.slice va n vc).ownBlock = some k) w1 w2 := (KpS.refl _ _).grown hg2 (fun k hk => .inl hk)
      exact ⟨(KG.block ob hw1 (fun h => HVOB.out ob h rfl)).trans HOB.out, ((KpS.refl _ W).below HB1.out).trans (KG.mono fun k h => .inr h)⟩
    go_wp2_with (at_builtin; refine wp_append1B elU32 w0.heap.size HOW.out [.int .u32 pi] rfl (by simp [Value.oneCell']) rfl _ _ rfl rfl _ rfl (by unfold maxLen; omega) (by omega) hBW ?_; intro v' w2 hv2 hg2 hbk2; have h9 := KGf.out v' w2 hg2; have HOB2 := Lib.hid h9.1; have HKG := Lib.hid h9.2; have hob2 := h9.1; have z2 : (w2.frozen? ⟨ob, 0, none⟩ = false) := (by simp [World.frozen?, hob2]); have c2 : (w2.cell? ⟨ob, 0, none⟩ = some (.slice va n vc)) := (by simp [World.cell?, hob2]); have HBK := Lib.hid hbk2; have HV2 := Lib.hid hv2; obtain ⟨va', vc', rfl⟩ := rowV hv2; clear h9 hob2 hv2 hbk2 hg2)
    go_ret
    have KF := (HKG.out.set (a := ⟨ob, 0, none⟩) (.slice va' (n + 1) vc') (.inl (.inl rfl)))
    have hnb' : ∀ gb, (Value.slice va' (n + 1) vc').ownBlock = some gb → gb ≠ ob := fun gb e => by
      rcases HBK.out with h9 | h9
      · exact fun e9 => HVOB.out gb (h9 ▸ e) e9.symm
      · rw [h9] at e
        injection e with e
        intro e9
        simp at e
        omega
    refine ⟨rfl, _, ⟨H1.out.trans (KF.toBelow H1.out.size (fun k h => ?_)), .slice va' (n + 1) vc', heap_setCell_same _ ob 0 _ _ _ HOB2.out, ?_, rfl⟩, fun k h => ?_, KF⟩
    · rcases h with rfl | h
      · exact hob
      · exact (HVO.out k h).1
    · have h9 := rowK (S := fun k => k = ob) HV2.out ((KpS.refl (fun k => k = ob) w2).set (a := ⟨ob, 0, none⟩) (.slice va' (n + 1) vc') (.inl rfl)) hnb'
      rw [HLN.out, HNM.out]
      exact h9
    · rcases h with rfl | h
      · exact .inl (.inl rfl)
      · rcases HBK.out with h9 | h9
        · exact .inl (.inr (h9 ▸ h))
        · rw [h9] at h
          injection h with h
          have := HB1.out.size
          simp at h
          right
          omega


theorem askH_no {more : Bool} {R : List Pt} {h : Hld} {x1 x2 y : Int} (hc : R.length = 0 ∨ x2 < x1) : askH more R h x1 x2 y = ([], 0) := by unfold askH; rw [if_pos hc]

set_option maxRecDepth 100000 in
set_option maxHeartbeats 4000000 in
theorem heap_asked (F : Nat) (cb : Array Value) (more : Bool) (R : List Pt) (h : Hld) (cnt : Int) (V : HepV) (lo hi tb fb : Nat) (w0 W : World) (S : World → List Nat → (Nat → Prop) → Prop) (D : Nat → Prop) (x1 x2 y : Int)
    (hA : HptAt w0 lo hi tb fb R h cnt V) (hW : HpWF R h) (hR : R.length ≤ 20000) (hT : TldH F cb more R w0 (askH more R h x1 x2 y).1 S) (hS : S W [] D) :
    Calls Tryz.prog 58 #[.pointer (some ⟨tb, 0, none⟩), .int .i64 x1, .int .i64 x2, .int .i64 y, .func (.func F) #[] cb] W (AskP S W D (askH more R h x1 x2 y)) := by
  have hbase := hT.base W [] D hS
  have hAW := hA.below hbase hA.tbr.2.2.2.2
  have htl := hAW.tbl
  have hb' := hAW.blk
  obtain ⟨ra, rc, erv⟩ := rowV hAW.row
  obtain ⟨xa, xc, exv, -, -, rx⟩ := Rd.of_owns hAW.xs
  rw [erv, exv] at hb'
  have lx : (xsR R).length = R.length := by unfold xsR; rw [List.length_map]
  rw [lx] at hb'
  have c0 : W.cell? ⟨tb, 0, none⟩ = some (.slice ra R.length rc) := by simp [World.cell?, hb']
  have c1 : W.cell? ⟨tb, 1, none⟩ = some (.slice xa R.length xc) := by simp [World.cell?, hb']
  have c2 : W.cell? ⟨tb, 2, none⟩ = some (.pointer (some ⟨fb, 0, none⟩)) := by simp [World.cell?, hb']
  have HST : Hid (∀ W', Below W.heap.size W W' → S W' [] D) := fun W' hb => hT.stable W W' [] D (fun _ => False) hS ((KpS.refl _ W).below hb) (fun k h => h.elim)
  by_cases hno : R.length = 0 ∨ x2 < x1
  · rw [askH_no hno]
    have HQ : Hid (AskP S W D ([], 0) (.returned (.int .i64 0)) W) := ⟨rfl, D, hS, fun k h => .inl h, KpS.refl _ _⟩
    clear hA hW hT hS hAW hb' hbase HST rx erv exv c1 c2
    generalize R.length = n at *
    by_cases h0 : n = 0
    · have d0 : ((n : Int) == 0) = true := by simp [h0]
      have d1 : (n == 0) = true := by simp [h0]
      have d2 : decide (n = 0) = true := by simp [h0]
      clear h0 hno lx
      go_enter Tryz.func58, Tryz.ntmps58
      go_wp2
      go_ret
      exact HQ.out
    · have d0 : ((n : Int) == 0) = false := by simp [h0]
      have d1 : (n == 0) = false := by simp [h0]
      have d2 : decide (n = 0) = false := by simp [h0]
      have f1 : decide (x1 > x2) = true := by simp; omega
      have f2 : decide (x2 < x1) = true := by simp; omega
      clear h0 hno lx
      go_enter Tryz.func58, Tryz.ntmps58
      go_wp2
      go_ret
      exact HQ.out
  · have h0 : 0 < R.length := by omega
    have CX1 := Lib.hid (fun W' (hb : Below W.heap.size W W') => rFirst xa (xsR R) xc x1 W' (rx.below hb) (by omega))
    have CX2 := Lib.hid (fun W' (hb : Below W.heap.size W W') => rAbove xa (xsR R) xc x2 W' (rx.below hb) (by omega))
    have l1 := bsrch_lk (fun i => decide (x1 ≤ (xsR R).getD i 0)) (xsR R).length
    have l2 := bsrch_lk (fun i => decide (x2 < (xsR R).getD i 0)) (xsR R).length
    have l1' : (rkFirst (xsR R) x1).2 ≤ 20000 := by unfold rkFirst; omega
    have l2' : (rkAbove (xsR R) x2).2 ≤ 20000 := by unfold rkAbove; omega
    obtain ⟨w1', w2', w3'⟩ := mkT_spec 0 R.length h0
    have hTs := mkT_size 0 R.length h0
    have CDN : Hid (∀ ab W' c, S W' [] D → ¬ D ab → w0.heap.size ≤ ab → W'.heap[ab]? = some (askB (hfr R x1) (hto R x2) y F cb c) → c ≤ 40000 → hfr R x1 < hto R x2 →
        Calls Tryz.prog 90 #[.pointer (some ⟨tb, 0, none⟩), .int .i64 ((2 * R.length - 2 : Nat) : Int), .pointer (some ⟨ab, 0, none⟩)] W' (DnH S W' D ab (hfr R x1) (hto R x2) y F cb c [] (downG more h (yvR R) y (hfr R x1) (hto R x2) (mkT 0 R.length) 0))) := fun ab W' c hS' hD hab hblk hc hft => by
      have h9 := heap_down F cb more R h cnt V lo hi tb fb ab w0 S y (hfr R x1) (hto R x2) _ hT hA hR hab (mkT 0 R.length) 0 W' [] D c (nds_at _ h0) w1' (by omega) (hW.ok h0) hS' hD hblk (by omega) (by
        unfold askH
        rw [if_neg hno, if_pos hft]
        exact List.prefix_rfl)
      rw [show (mkT 0 R.length).root 0 = 2 * R.length - 2 by unfold FT.root; omega] at h9
      exact h9
    have hcost := (askH_few hW hR more x1 x2 y).2
    have HASK : Hid (askH more R h x1 x2 y = if hfr R x1 < hto R x2 then ((downG more h (yvR R) y (hfr R x1) (hto R x2) (mkT 0 R.length) 0).1, (rkFirst (xsR R) x1).2 + (rkAbove (xsR R) x2).2 + (downG more h (yvR R) y (hfr R x1) (hto R x2) (mkT 0 R.length) 0).2.1) else ([], (rkFirst (xsR R) x1).2 + (rkAbove (xsR R) x2).2)) := by
      show askH more R h x1 x2 y = _
      conv => lhs; unfold askH
      rw [if_neg hno]
    have HFR : Hid (hfr R x1 = (rkFirst (xsR R) x1).1 ∧ hto R x2 = (rkAbove (xsR R) x2).1) := ⟨rfl, rfl⟩
    rw [← HFR.out.1, lx] at CX1
    rw [← HFR.out.2, lx] at CX2
    have HAW := Lib.hid hAW
    have HDL := Lib.hid (hT.lt W [] D hS)
    have hbs := hbase.size
    have f1 : decide (x1 > x2) = false := by simp; omega
    have f2 : decide (x2 < x1) = false := by simp; omega
    obtain ⟨dg, hdg⟩ : ∃ dg, dg = downG more h (yvR R) y (hfr R x1) (hto R x2) (mkT 0 R.length) 0 := ⟨_, rfl⟩
    rw [← hdg] at CDN HASK
    clear hA hW hT hS hAW hb' hbase rx erv exv hno l1 l2 w1' w2' w3' hTs lx hdg
    generalize hfr R x1 = fr at *
    generalize hto R x2 = tu at *
    generalize hr1 : (rkFirst (xsR R) x1).2 = r1 at *
    generalize hr2 : (rkAbove (xsR R) x2).2 = r2 at *
    generalize askH more R h x1 x2 y = ask at *
    clear hr1 hr2 HFR
    have HRL : Hid (FrmAt W lo fb R.length V.fv) := HAW.out.frm
    have HTB : Hid (fb < W.heap.size) := Nat.lt_of_lt_of_le HAW.out.tbr.2.2.2.1 HAW.out.tbr.2.2.2.2
    clear HAW
    generalize R.length = n at *
    have d0 : ((n : Int) == 0) = false := by simp; omega
    have d1 : (n == 0) = false := by simp; omega
    have d2 : decide (n = 0) = false := by simp; omega
    go_enter Tryz.func58, Tryz.ntmps58
    go_wp2_with fail
    refine (CX1.out W (Below.refl _ _)).mono ?_
    rintro e w1 ⟨rfl, hb1⟩
    have c1' := (hb1.cell (p := ⟨tb, 1, none⟩) htl).trans c1
    have HB1 := Lib.hid hb1
    clear hb1
    go_wp2_with fail
    refine (CX2.out w1 HB1.out).mono ?_
    rintro e w2 ⟨rfl, hb2⟩
    have HB2 : Hid (Below W.heap.size W w2) := HB1.out.trans (hb2.mono HB1.out.size)
    clear hb2 c1' CX1 CX2 HB1
    go_upto_region 6 with fail
    obtain ⟨w3, ew3⟩ : ∃ w3, w3 = w2.alloc (.cells #[.int .i64 fr, .int .i64 tu, .int .i64 y, .func (.func F) #[] cb, .int .i64 ((r1 + r2 : Nat) : Int)] 160) := ⟨_, rfl⟩
    have hb3 : Below w2.heap.size w2 w3 := by rw [ew3]; exact (Below.refl _ _).alloc (Nat.le_refl _) _
    obtain ⟨ab, hab⟩ : ∃ ab, ab = w2.heap.size := ⟨_, rfl⟩
    have ha3 : w3.heap[ab]? = some (askB fr tu y F cb (r1 + r2)) := by rw [ew3, hab]; exact lit0 w2 _
    have HB3 : Hid (Below W.heap.size W w3) := HB2.out.trans (hb3.mono HB2.out.size)
    have hab2 : W.heap.size ≤ ab := by rw [hab]; exact HB2.out.size
    rw [show w2.alloc (.cells #[.int .i64 fr, .int .i64 tu, .int .i64 y, .func (.func F) #[] cb, .int .i64 ((r1 : Int) + (r2 : Int))] 160) = w3 by rw [ew3]; rfl, ← hab]
    have HA3 := Lib.hid ha3
    have k2 := (HB3.out.cell (p := ⟨tb, 2, none⟩) htl).trans c2
    have habl : ab < w3.heap.size := (Array.getElem?_eq_some_iff.1 ha3).1
    have HDAB : Hid (¬ D ab) := fun h9 => by have := (HDL.out ab h9).2; omega
    clear ew3 hb3 ha3 hab HB2 c0 c1 c2
    by_cases hft : fr < tu
    · have g1 : decide ((fr : Int) < (tu : Int)) = true := by simp; omega
      have g2 : decide (fr < tu) = true := by simp; omega
      have hask := HASK.out
      rw [if_pos hft] at hask
      have HASK2 := Lib.hid hask
      have hfb := HRL.out.blk
      have hf3 := (HB3.out.block fb HTB.out).trans hfb
      have CRT := Lib.hid (frame_root fb n h0 (by omega) w3 (by simp [World.cell?, hf3]) (by simp [World.cell?, hf3]))
      have CD := Lib.hid (CDN.out ab w3 (r1 + r2) (HST.out w3 HB3.out) HDAB.out (by omega) HA3.out (by omega) hft)
      clear hask hft hf3 hfb CDN HASK
      go_wp2_with fail
      refine CRT.out.mono ?_
      rintro e w' ⟨rfl, ew'⟩
      subst ew'
      go_wp2_with fail
      refine CD.out.mono ?_
      rintro e w4 ⟨rfl, D4, hS4, hD4, hK4, hB4⟩
      have k4 : w4.cell? ⟨ab, 4, none⟩ = some (.int .i64 ((r1 + r2 + dg.2.1 : Nat) : Int)) := by simp [World.cell?, hB4]
      have HFIN : Hid (AskP S W D ask (.returned (.int .i64 ((r1 + r2 + dg.2.1 : Nat) : Int))) w4) := by
        rw [HASK2.out]
        refine ⟨rfl, D4, hS4, fun k h9 => (hD4 k h9).imp id fun h8 => by have := HB3.out.size; omega, ?_⟩
        exact (((KpS.refl (fun k => D k ∨ W.heap.size ≤ k) W).below HB3.out).trans (hK4.mono fun k h9 => h9.imp id fun h8 => by omega)).strip
      clear hS4 hD4 hK4 hB4 CD CRT
      go_wp2
      go_ret
      exact HFIN.out
    · have g1 : decide ((fr : Int) < (tu : Int)) = false := by simp; omega
      have g2 : decide (fr < tu) = false := by simp; omega
      have hask := HASK.out
      rw [if_neg hft] at hask
      have HFIN : Hid (AskP S W D ask (.returned (.int .i64 ((r1 + r2 : Nat) : Int))) w3) := by
        rw [hask]
        exact ⟨rfl, D, HST.out w3 HB3.out, fun k h => .inl h, (KpS.refl _ W).below HB3.out⟩
      have ha3 := HA3.out
      have k4 : w3.cell? ⟨ab, 4, none⟩ = some (.int .i64 ((r1 + r2 : Nat) : Int)) := by simp [World.cell?, ha3]
      clear hask hft ha3 CDN HASK
      go_wp2
      go_ret
      exact HFIN.out

def ThrP (w : World) (R : List Pt) (r : List Nat × Nat) (e : Ending) (w' : World) : Prop :=
  ∃ v, e = .returned (.tuple #[v, .int .i64 (r.2 : Nat)]) ∧ w'.ownsRow w.heap.size 32 1 v r.1.length ((srtI (r.1.map (nmR R))).map (Value.int .u32)) ∧ Below w.heap.size w w'

set_option maxRecDepth 100000 in
set_option maxHeartbeats 4000000 in
theorem heap_three {w : World} {lo hi tb fb : Nat} {R : List Pt} {h : Hld} {cnt : Int} {V : HepV} (hA : HptAt w lo hi tb fb R h cnt V) (hW : HpWF R h) (hR : R.length ≤ 20000) (x1 x2 y : Int) :
    Calls Tryz.prog 22 #[.pointer (some ⟨tb, 0, none⟩), .int .i64 x1, .int .i64 x2, .int .i64 y] w (ThrP w R (askH true R h x1 x2 y)) := by
  obtain ⟨w1, ew1⟩ : ∃ w1, w1 = w.alloc (.cells #[.slice none 0 0] 40) := ⟨_, rfl⟩
  have hb1 : Below w.heap.size w w1 := by rw [ew1]; exact (Below.refl _ _).alloc (Nat.le_refl _) _
  have ho1 : w1.heap[w.heap.size]? = some (.cells #[.slice none 0 0] 40 (0, 0)) := by rw [ew1]; exact lit0 w _
  have hS : ThrS w.heap.size R w w1 [] (fun k => k = w.heap.size ∨ (Value.slice none 0 0).ownBlock = some k) := ⟨hb1, .slice none 0 0, ho1, World.ownsRow_nil _ _ _ _, rfl⟩
  obtain ⟨hlen, hcost⟩ := askH_few hW hR true x1 x2 y
  have CA := heap_asked 59 #[.pointer (some ⟨w.heap.size, 0, none⟩)] true R h cnt V lo hi tb fb w w1 (ThrS w.heap.size R w) _ x1 x2 y hA hW hR
    (three_told R w.heap.size w _ (by omega) (Nat.le_refl _)) hS
  generalize askH true R h x1 x2 y = r at *
  have HCA := Lib.hid CA
  have HB1 := Lib.hid hb1
  have hrl : r.1.length ≤ 40000 := by omega
  clear CA hS ho1 hb1 hA hlen hW
  go_enter Tryz.func22, Tryz.ntmps22
  go_wp2_with fail
  rw [← ew1]
  clear ew1
  refine HCA.out.mono ?_
  rintro e w2 ⟨rfl, D', ⟨hb2, v, ho2, hv2, rfl⟩, hD, hK⟩
  have HV2 := Lib.hid hv2
  have HB2 := Lib.hid hb2
  have HO2 := Lib.hid ho2
  have k0 : w2.cell? ⟨w.heap.size, 0, none⟩ = some v := by simp [World.cell?, ho2]
  have hvo : ∀ gb, v.ownBlock = some gb → w.heap.size ≠ gb := row_ne hv2 ho2 (by decide)
  have HVO := Lib.hid hvo
  have hol := (Array.getElem?_eq_some_iff.1 ho2).1
  have CS := Lib.hid (sortU32 (l := r.1.map (nmR R)) hv2 (by omega))
  obtain ⟨va, vc, rfl⟩ := rowV hv2
  clear hv2 hb2 ho2 hK hD hvo HCA
  go_wp2_with fail
  refine CS.out.mono ?_
  rintro e w3 ⟨rfl, hv3, hK3⟩
  have HV3 := Lib.hid hv3
  have k3 : w3.cell? ⟨w.heap.size, 0, none⟩ = some (.slice va r.1.length vc) := ((cellK hK3 hol (fun h => HVO.out _ h rfl)).1 0).trans k0
  have HK3 : Hid (Below w.heap.size w w3) := HB2.out.trans (hK3.toBelow HB2.out.size (fun k h => (HV2.out.lt k h).1))
  clear hv3 hK3 k0 CS
  go_wp2
  go_ret2
  exact ⟨_, rfl, HV3.out, HK3.out⟩

set_option maxRecDepth 100000 in
set_option maxHeartbeats 4000000 in
theorem heap_any {w : World} {lo hi tb fb : Nat} {R : List Pt} {h : Hld} {cnt : Int} {V : HepV} (hA : HptAt w lo hi tb fb R h cnt V) (hW : HpWF R h) (hR : R.length ≤ 20000) (x1 x2 y : Int) :
    Calls Tryz.prog 24 #[.pointer (some ⟨tb, 0, none⟩), .int .i64 x1, .int .i64 x2, .int .i64 y] w fun e w' =>
      e = .returned (.tuple #[.bool (decide (0 < (askH false R h x1 x2 y).1.length)), .int .i64 (askH false R h x1 x2 y).2]) ∧ Below w.heap.size w w' := by
  obtain ⟨w1, ew1⟩ : ∃ w1, w1 = w.alloc (.cells #[.bool false] 4) := ⟨_, rfl⟩
  have hb1 : Below w.heap.size w w1 := by rw [ew1]; exact (Below.refl _ _).alloc (Nat.le_refl _) _
  have ho1 : w1.heap[w.heap.size]? = some (.cells #[.bool false] 4 (0, 0)) := by rw [ew1]; exact lit0 w _
  have hS : AnyS w.heap.size w w1 [] (fun k => k = w.heap.size) := ⟨hb1, ho1, rfl⟩
  have CA := heap_asked 61 #[.pointer (some ⟨w.heap.size, 0, none⟩)] false R h cnt V lo hi tb fb w w1 (AnyS w.heap.size w) _ x1 x2 y hA hW hR
    (any_told R w.heap.size w _ (Nat.le_refl _)) hS
  generalize askH false R h x1 x2 y = r at *
  have HCA := Lib.hid CA
  have HB1 := Lib.hid hb1
  clear CA hS ho1 hb1 hA hW
  go_enter Tryz.func24, Tryz.ntmps24
  go_wp2_with fail
  rw [← ew1]
  clear ew1
  refine HCA.out.mono ?_
  rintro e w2 ⟨rfl, D', ⟨hb2, ho2, rfl⟩, hD, hK⟩
  have HB2 := Lib.hid hb2
  obtain ⟨bb, hbb⟩ : ∃ bb, bb = decide (0 < r.1.length) := ⟨_, rfl⟩
  rw [← hbb] at ho2
  have HBB := Lib.hid hbb
  clear hbb
  have k0 : w2.cell? ⟨w.heap.size, 0, none⟩ = some (.bool bb) := by simp [World.cell?, ho2]
  clear hb2 ho2 hK hD HCA
  go_wp2
  go_ret2
  rw [← HBB.out]
  exact ⟨rfl, HB2.out⟩
end Go.Proofs.YtggfdlanobndjaaGreat
