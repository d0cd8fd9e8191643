/- stair.Merge: the skyline of two stairs. -/
import Derived.Test.YtpebefcmloablaaMrgP
import Derived.Deep.RegionLaw
import Derived.Deep.RegionHeld3
import Derived.WalkMore
namespace Go.Proofs.Ytpebefcmloablaa
open Go.RowKit Go.Maps

theorem run_appendK {α : Type} {P : Program} {enc : α → List Value} {sz : Nat} {t ty e : TypeId} {bytes : Nat} (E : ElemOK P t e sz bytes) (hk : ∀ x, (enc x).length = sz) (h1 : ∀ x, ∀ u ∈ enc x, u.oneCell' = true) (base : Nat) {v : Value} {n : Nat} {xs : List Value} {W : World} (hown : W.ownsRow base e sz v n xs) {ad : Option Addr} {l : List α} (hl : RdK enc sz W ad l)
    (c : Nat) (h63 : n + l.length ≤ maxLen) (hbytes : (n + l.length) * bytes ≤ 140737488355328) (hbase : base ≤ W.heap.size) :
    ∃ v' w', (Builtin.append_ #[t, t] ty #[v, .slice ad l.length c]).run P W = .ok v' w' ∧ w'.ownsRow base e sz v' (n + l.length) (xs ++ l.flatMap enc) ∧ W.grownBy w' v.ownBlock := by
  rcases hl with rfl | ⟨b, off, rfl, hb, hc⟩
  · exact ⟨v, W, run_append_nothing E hown ad c, by simpa using hown, ⟨rfl, rfl, rfl, Nat.le_refl _, fun _ _ _ => rfl⟩⟩
  · obtain ⟨ht, ⟨i, z, hi, hz, hsize, hby, hzs⟩, hsz⟩ := E
    obtain ⟨v', w', h2, h3, h4, _⟩ := run_append_own (P := P) W base t ty e i z sz bytes ht hi hz hsize hby hzs hsz v n xs hown ⟨b, off, none⟩ l.length c (l.flatMap enc) (flat_len hk l) (by
      intro j u hu
      have hadd : (⟨b, off, none⟩ : Addr).add j = ⟨b, off + j, none⟩ := by unfold Addr.add; split <;> simp_all
      rw [hadd]
      have hj : j < l.length * sz := by
        have := (List.getElem?_eq_some_iff.1 hu).1
        rw [flat_len hk] at this
        exact this
      have hi' : j / sz < l.length := (Nat.div_lt_iff_lt_mul hsz).2 hj
      have h2 := hc (j / sz) hi' (j % sz) (Nat.mod_lt _ hsz)
      have h3 := flat_get hk l (j / sz) hi' (j % sz) (Nat.mod_lt _ hsz)
      have e1 : j / sz * sz + j % sz = j := by rw [Nat.mul_comm]; exact Nat.div_add_mod j sz
      rw [e1] at h3
      rw [Nat.add_assoc, e1] at h2
      rw [h2, ← h3]
      exact hu) (by
      intro u hu
      obtain ⟨y, _, hy⟩ := List.mem_flatMap.1 hu
      exact h1 y u hy) h63 hbytes hbase
    exact ⟨v', w', h2, h3, h4⟩

theorem byX_below (p q : Pt) (W : World) : Calls Try.prog 42 #[vPt p.1 p.2.1 p.2.2, vPt q.1 q.2.1 q.2.2] W fun e w' => e = .returned (.int .i64 (ordX p q)) ∧ Below W.heap.size W w' :=
  (iByX p q W).mono fun _ _ h => ⟨h.1, h.2.below (Nat.le_refl _)⟩

def lenOf : Value → Nat
  | .slice _ n _ => n
  | _ => 0

theorem lsts_two {W : World} {a b : Option Addr} {la lb : List Pt} (ca cb : Nat) (t : TypeId) (h : RdK ePt 3 W a la) (h2 : RdK ePt 3 W b lb) : Lsts (W.alloc (.cells #[.slice a la.length ca, .slice b lb.length cb] t)) W.heap.size [(a, la, ca), (b, lb, cb)] := by
  intro j hj
  simp only [List.length_cons, List.length_nil] at hj
  obtain rfl | rfl : j = 0 ∨ j = 1 := by omega
  · exact ⟨by rw [World.cell?_alloc_at _ _ _ _ rfl]; rfl, h.below ((Below.refl _ _).alloc (Nat.le_refl _) _)⟩
  · exact ⟨by rw [World.cell?_alloc_at _ _ _ _ rfl]; rfl, h2.below ((Below.refl _ _).alloc (Nat.le_refl _) _)⟩
theorem allP_two (a b : Option Addr) (la lb : List Pt) (ca cb : Nat) : allP [(a, la, ca), (b, lb, cb)] = la ++ lb := by simp [allP]

theorem wfI_append {A B : List Pt} (h : wfI A) (h2 : wfI B) : wfI (A ++ B) := fun p hp => by
  rcases List.mem_append.1 hp with hp | hp
  · exact h p hp
  · exact h2 p hp

theorem RdK_of_nil {α : Type} {enc : α → List Value} {sz : Nat} {w : World} {a : Option Addr} {l : List α} (h : l.length = 0) : RdK enc sz w a l := .inl (List.eq_nil_of_length_eq_zero h)
theorem RdK.tail {α : Type} {enc : α → List Value} {sz : Nat} {w : World} {b off : Nat} {x : α} {l : List α} (h : RdK enc sz w (some ⟨b, off, none⟩) (x :: l)) : RdK enc sz w (some ⟨b, off + sz, none⟩) l := by
  have := h.drop 1
  simpa using this

set_option maxRecDepth 100000 in
set_option maxHeartbeats 2000000 in
theorem merge_stair (a b : Option Addr) (la lb : List Pt) (na nb ca cb : Nat) (w : World) (hna : la.length = na) (hnb : lb.length = nb) (ha : RdK ePt 3 w a la) (hb : RdK ePt 3 w b lb) (hl : na + nb ≤ 1000000) (hwa : wfI la) (hwb : wfI lb) (hno : (rightF la && rightF lb) = false) :
    Calls Try.prog 19 #[.slice a na ca, .slice b nb cb] w fun e w' => e = .returned (.tuple #[.slice none 0 0, .int .i64 150]) ∧ Below w.heap.size w w' := by
  subst hna hnb
  have C1 := Lib.hid (right_calls a la la.length ca w rfl ha (by omega) hwa)
  have C2 := Lib.hid (fun W (h : Below w.heap.size w W) => right_calls b lb lb.length cb W rfl (hb.below h) (by omega) hwb)
  clear ha hb hwa hwb
  cases h1 : rightF la
  · rw [h1] at C1
    clear hno C2
    go_enter Try.func19, Try.ntmps19
    go_wp2
    go_step3
    go_wp2_with fail
    refine C1.out.mono ?_
    rintro e w1 ⟨rfl, hb1⟩
    go_wp2
    rw [Exit.noGoto_ret]
    go_ret2
    exact ⟨rfl, hb1⟩
  · have h2 : rightF lb = false := by simpa [h1] using hno
    rw [h1] at C1
    rw [h2] at C2
    clear hno
    go_enter Try.func19, Try.ntmps19
    go_wp2
    go_step3
    go_wp2_with fail
    refine C1.out.mono ?_
    rintro e w1 ⟨rfl, hb1⟩
    go_wp2_with fail
    refine (C2.out w1 hb1).mono ?_
    rintro e w2 ⟨rfl, hb2⟩
    go_wp2
    rw [Exit.noGoto_ret]
    go_ret2
    exact ⟨rfl, hb1.trans (hb2.mono hb1.size)⟩

set_option maxRecDepth 100000 in
set_option maxHeartbeats 2000000 in
theorem merge_arg (a b : Option Addr) (la lb : List Pt) (na nb ca cb : Nat) (w : World) (hna : la.length = na) (hnb : lb.length = nb) (ha : RdK ePt 3 w a la) (hb : RdK ePt 3 w b lb) (hl : na + nb ≤ 1000000) (hwa : wfI la) (hwb : wfI lb) (h1 : rightF la = true) (h2 : rightF lb = true) (hu : unl (la ++ lb) = false) :
    Calls Try.prog 19 #[.slice a na ca, .slice b nb cb] w fun e w' => e = .returned (.tuple #[.slice none 0 0, .int .i64 2]) ∧ Below w.heap.size w w' := by
  subst hna hnb
  have C1 := Lib.hid (right_calls a la la.length ca w rfl ha (by omega) hwa)
  have C2 := Lib.hid (fun W (h : Below w.heap.size w W) => right_calls b lb lb.length cb W rfl (hb.below h) (by omega) hwb)
  have C3 := Lib.hid (fun W (h : Below w.heap.size w W) => unlike_calls W.heap.size 2 [(a, la, ca), (b, lb, cb)] _ (by simp) (lsts_two ca cb 22 (ha.below h) (hb.below h)) (by rw [allP_two]; simpa using hl) (by simp) (by rw [allP_two]; exact wfI_append hwa hwb))
  rw [h1] at C1
  rw [h2] at C2
  rw [allP_two, hu] at C3
  clear ha hb hwa hwb h1 h2 hu
  go_enter Try.func19, Try.ntmps19
  go_wp2
  go_step3
  go_wp2_with fail
  refine C1.out.mono ?_
  rintro e w1 ⟨rfl, hb1⟩
  go_wp2_with fail
  refine (C2.out w1 hb1).mono ?_
  rintro e w2 ⟨rfl, hb2⟩
  have hb3 := hb1.trans (hb2.mono hb1.size)
  go_wp2_with fail
  refine (C3.out w2 hb3).mono ?_
  rintro e w4 ⟨rfl, hb4⟩
  go_wp2
  rw [Exit.noGoto_ret]
  go_ret2
  exact ⟨rfl, (hb3.alloc hb3.size _).trans (hb4.mono (by have := hb3.size; simp; omega))⟩

set_option maxRecDepth 100000 in
set_option maxHeartbeats 4000000 in
theorem merge_yes (a b : Option Addr) (la lb : List Pt) (na nb ca cb : Nat) (w : World) (hna : la.length = na) (hnb : lb.length = nb) (hca : na ≤ ca) (hcb : nb ≤ cb) (ha : RdK ePt 3 w a la) (hb : RdK ePt 3 w b lb) (hl : na + nb ≤ 1000000) (hwa : wfI la) (hwb : wfI lb) (h1 : rightF la = true) (h2 : rightF lb = true) (hu : unl (la ++ lb) = true) :
    Calls Try.prog 19 #[.slice a na ca, .slice b nb cb] w fun e w' => ∃ v, e = .returned (.tuple #[v, .int .i64 0]) ∧ w'.ownsRow w.heap.size 33 3 v (skyOf (la ++ lb)).length ((skyOf (la ++ lb)).flatMap ePt) ∧ Below w.heap.size w w' := by
  subst hna hnb
  have hms := merge_sky h1 h2 ((unl_iff _).1 hu)
  have hml : (mrgP la lb).length = la.length + lb.length := by have := (mrgP_perm _ la lb (Nat.le_refl _)).length_eq; simpa using this
  rw [← hms]
  have C1 := Lib.hid (right_calls a la la.length ca w rfl ha (by omega) hwa)
  have C2 := Lib.hid (fun W (h : Below w.heap.size w W) => right_calls b lb lb.length cb W rfl (hb.below h) (by omega) hwb)
  have C3 := Lib.hid (fun W (h : Below w.heap.size w W) => unlike_calls W.heap.size 2 [(a, la, ca), (b, lb, cb)] _ (by simp) (lsts_two ca cb 22 (ha.below h) (hb.below h)) (by rw [allP_two]; simpa using hl) (by simp) (by rw [allP_two]; exact wfI_append hwa hwb))
  rw [h1] at C1
  rw [h2] at C2
  rw [allP_two, hu] at C3
  have RA := Lib.hid ha
  have RB := Lib.hid hb
  clear ha hb hwa hwb h1 h2 hu hms
  generalize hM : mrgP la lb = M at *
  have HM := Lib.hid hM
  clear hM
  go_enter Try.func19, Try.ntmps19
  go_wp2
  go_step3
  go_wp2_with fail
  refine C1.out.mono ?_
  rintro e w1 ⟨rfl, hb1⟩
  go_wp2_with fail
  refine (C2.out w1 hb1).mono ?_
  rintro e w2 ⟨rfl, hb2⟩
  have hb3 := hb1.trans (hb2.mono hb1.size)
  go_wp2_with fail
  refine (C3.out w2 hb3).mono ?_
  rintro e w4 ⟨rfl, hb4⟩
  have hb5 := (hb3.alloc hb3.size (.cells #[.slice a la.length ca, .slice b lb.length cb] 22)).trans (hb4.mono (by have := hb3.size; simp; omega))
  have RA4 := Lib.hid (RA.out.below hb5)
  have RB4 := Lib.hid (RB.out.below hb5)
  clear hb1 hb2 hb3 hb4 C1 C2 C3 RA RB
  go_wp2
  go_step3
  go_wp2
  go_loopw [0, 1, 6] (fun va vb vo wr => ∃ (A B O : List Pt) (aa ab ao : Option Addr) (xa xb xo : Nat), va = .slice aa A.length xa ∧ vb = .slice ab B.length xb ∧ vo = .slice ao O.length xo ∧ A.length ≤ xa ∧ B.length ≤ xb ∧
      Hid (wr.ownsRow w4.heap.size 33 3 (.slice ao O.length xo) O.length (O.flatMap ePt)) ∧ Hid (RdK ePt 3 w4 aa A) ∧ Hid (RdK ePt 3 w4 ab B) ∧ Hid (O ++ mrgP A B = M) ∧ O.length + A.length + B.length = la.length + lb.length ∧ Below w4.heap.size w4 wr)
    (fun va vb _ _ => lenOf va + lenOf vb)
  case atStart => exact ⟨la, lb, [], a, b, none, ca, cb, 0, rfl, rfl, rfl, hca, hcb, World.ownsRow_nil _ _ _ _, RA4, RB4, HM, by simp, Below.refl _ _⟩
  case round =>
    obtain ⟨A, B, O, aa, ab, ao, xa, xb, xo, rfl, rfl, rfl, hxa, hxb, HO, RA, RB, HMM, hlen, hb⟩ := hrel
    cases A with
    | nil =>
      rw [mrgP_nil] at HMM
      simp only [List.length_nil] at hxa hlen ⊢
      go_wp2_with (at_builtin; refine wp_appendK elPoint ePt_len ePt_one w4.heap.size HO.out (RB.out.below hb) rfl _ _ rfl rfl xb rfl (by unfold maxLen; omega) (by omega) hb.size ?_; intro v' w6 hown' hg)
      rw [← List.flatMap_append, HMM.out] at hown'
      obtain ⟨a6, c6, rfl, hn6, _, hr6⟩ := RdK.of_owns ePt_len (by decide) hown'
      have B6 : Below w.heap.size w w6 := hb5.trans ((below_grown hb HO.out hg hb.size (Nat.le_refl _)).mono hb5.size)
      refine (scan_calls rfl hr6 (by omega)).mono ?_
      rintro e w7 ⟨v7, rfl, hown7, hb7⟩
      go_wp2
      rw [Exit.noGoto_ret]
      go_ret2
      exact ⟨_, rfl, ownsRow_mono hown7 B6.size, B6.trans (hb7.mono B6.size)⟩
    | cons x A2 =>
      cases B with
      | nil =>
        rw [mrgP_nil2] at HMM
        simp only [List.length_nil, List.length_cons] at hxa hxb hlen ⊢
        go_wp2_with (at_builtin; refine wp_appendK (l := x :: A2) elPoint ePt_len ePt_one w4.heap.size HO.out (RA.out.below hb) rfl _ _ rfl rfl xa rfl (by unfold maxLen; simp; omega) (by simp; omega) hb.size ?_; intro v' w6 hown' hg)
        rw [← List.flatMap_append, HMM.out] at hown'
        obtain ⟨a6, c6, rfl, hn6, _, hr6⟩ := RdK.of_owns ePt_len (by decide) hown'
        have B6 : Below w.heap.size w w6 := hb5.trans ((below_grown hb HO.out hg hb.size (Nat.le_refl _)).mono hb5.size)
        refine (scan_calls rfl hr6 (by omega)).mono ?_
        rintro e w7 ⟨v7, rfl, hown7, hb7⟩
        go_wp2
        rw [Exit.noGoto_ret]
        go_ret2
        exact ⟨_, rfl, ownsRow_mono hown7 B6.size, B6.trans (hb7.mono B6.size)⟩
      | cons y B2 =>
        simp only [List.length_cons] at hlen
        obtain ⟨ba, oa, rfl, hba, hcA⟩ := RA.out.get (by simp)
        obtain ⟨bb, ob, rfl, hbb, hcB⟩ := RB.out.get (by simp)
        have TA := Lib.hid (RdK.tail RA.out)
        have TB := Lib.hid (RdK.tail RB.out)
        have HOR := Lib.hid (mrgP_cons x A2 y B2)
        obtain ⟨px, py, pi⟩ := x
        obtain ⟨qx, qy, qi⟩ := y
        have x0 := hcA 0 (by simp) 0 (by omega)
        have x1 := hcA 0 (by simp) 1 (by omega)
        have x2 := hcA 0 (by simp) 2 (by omega)
        have y0 := hcB 0 (by simp) 0 (by omega)
        have y1 := hcB 0 (by simp) 1 (by omega)
        have y2 := hcB 0 (by simp) 2 (by omega)
        simp only [List.getElem_cons_zero, ePt, List.getElem?_cons_zero, List.getElem?_cons_succ, Nat.add_zero, Nat.zero_mul] at x0 x1 x2 y0 y1 y2
        clear hcA hcB
        have hx0 := (hb.cell (p := ⟨ba, oa, none⟩) hba).trans x0
        have hx1 := (hb.cell (p := ⟨ba, oa + 1, none⟩) hba).trans x1
        have hx2 := (hb.cell (p := ⟨ba, oa + 2, none⟩) hba).trans x2
        have hy0 := (hb.cell (p := ⟨bb, ob, none⟩) hbb).trans y0
        have hy1 := (hb.cell (p := ⟨bb, ob + 1, none⟩) hbb).trans y1
        have hy2 := (hb.cell (p := ⟨bb, ob + 2, none⟩) hbb).trans y2
        have X4 := Lib.hid (And.intro x0 (And.intro x1 x2))
        have Y4 := Lib.hid (And.intro y0 (And.intro y1 y2))
        clear x0 x1 x2 y0 y1 y2
        have kx0 := cell_belowW hx0
        have kx1 := cell_belowW hx1
        have kx2 := cell_belowW hx2
        have ky0 := cell_belowW hy0
        have ky1 := cell_belowW hy1
        have ky2 := cell_belowW hy2
        have HC := Lib.hid (fun W => byX_below (px, py, pi) (qx, qy, qi) W)
        simp only [List.length_cons] at hxa hxb ⊢
        by_cases hord : ordX (px, py, pi) (qx, qy, qi) < 0
        · rw [if_pos hord] at HOR
          have hd : decide (ordX (px, py, pi) (qx, qy, qi) < 0) = true := by simp [hord]
          generalize ordX (px, py, pi) (qx, qy, qi) = od at *
          go_wp2
          refine wp_region_below (by kernel_rfl) (by kernel_rfl) ?_
          repeat (quiet_step ((go_at_call 42; exact calls_below (HC.out _))))
          refine wpQuiet_nil ?_
          intro w5 hw'
          have hb6 : Below wr.heap.size wr w5 := by obtain ⟨p, rfl⟩ := hw'; exact p.h
          clear hw'
          have hlA : ba < wr.heap.size := Nat.lt_of_lt_of_le hba hb.size
          have hlB : bb < wr.heap.size := Nat.lt_of_lt_of_le hbb hb.size
          have zx0 := (hb6.cell (p := ⟨ba, oa, none⟩) hlA).trans hx0
          have zx1 := (hb6.cell (p := ⟨ba, oa + 1, none⟩) hlA).trans hx1
          have zx2 := (hb6.cell (p := ⟨ba, oa + 2, none⟩) hlA).trans hx2
          have zy0 := (hb6.cell (p := ⟨bb, ob, none⟩) hlB).trans hy0
          have zy1 := (hb6.cell (p := ⟨bb, ob + 1, none⟩) hlB).trans hy1
          have zy2 := (hb6.cell (p := ⟨bb, ob + 2, none⟩) hlB).trans hy2
          clear hx0 hx1 hx2 hy0 hy1 hy2 kx0 kx1 kx2 ky0 ky1 ky2 HC
          have hlA5 : ba < w5.heap.size := Nat.lt_of_lt_of_le hlA hb6.size
          have hlB5 : bb < w5.heap.size := Nat.lt_of_lt_of_le hlB hb6.size
          have HO5 := ownsRow_below HO.out hb6
          have bw5 := hb.trans (hb6.mono hb.size)
          have hs5 := bw5.size
          clear HO hb hb6
          have HM6 : Hid ((O ++ [(px, py, pi)]) ++ mrgP A2 ((qx, qy, qi) :: B2) = M) := by
            have := HMM.out
            rw [HOR.out, List.append_cons] at this
            exact this
          have HL6 : (O ++ [(px, py, pi)]).length + A2.length + (B2.length + 1) = la.length + lb.length := by simp; omega
          clear HMM HOR
          have HOd : ((w5.alloc (.cells #[.int .i64 px, .int .i64 py, .int .u32 pi] 33)).drew).ownsRow w4.heap.size 33 3 (.slice ao O.length xo) O.length (O.flatMap ePt) := (HO5.alloc _).drewAny 1
          obtain ⟨v2, w6, R1, hown2, hg2⟩ := run_appendK (ty := 22) (t := 22) (P := Try.prog) (l := [(px, py, pi)]) elPoint ePt_len ePt_one w4.heap.size HOd ((RdK.lit ePt_len w5 33 [(px, py, pi)] w5.heap.size rfl).below (Below.drewAny _ 1)) 1 (by unfold maxLen; simp; omega) (by simp; omega) (by simp; omega)
          have B6 : Below w4.heap.size w4 w6 := below_grown ((bw5.alloc (by simpa using hs5) _).drew) HOd hg2 (by simp; omega) (Nat.le_refl _)
          obtain ⟨a2, c2, rfl, -, -, -⟩ := RdK.of_owns (l := O ++ [(px, py, pi)]) (enc := ePt) ePt_len (by decide) (by simpa using hown2)
          have hown3 : w6.ownsRow w4.heap.size 33 3 (.slice a2 (O ++ [(px, py, pi)]).length c2) (O ++ [(px, py, pi)]).length ((O ++ [(px, py, pi)]).flatMap ePt) := by simpa using hown2
          have HN := Lib.hid hown3
          have E9 : (O ++ [(px, py, pi)]).length = O.length + 1 := by simp
          rw [E9] at R1
          have HE9 := Lib.hid E9
          clear E9
          have hXa : w5.cell? ⟨ba, oa, none⟩ = some (.int .i64 px) ∧ w5.cell? ⟨ba, oa + 1, none⟩ = some (.int .i64 py) ∧ w5.cell? ⟨ba, oa + 2, none⟩ = some (.int .u32 pi) := ⟨zx0, zx1, zx2⟩
          have hXb : w5.drew.cell? ⟨ba, oa, none⟩ = some (.int .i64 px) ∧ w5.drew.cell? ⟨ba, oa + 1, none⟩ = some (.int .i64 py) ∧ w5.drew.cell? ⟨ba, oa + 2, none⟩ = some (.int .u32 pi) := ⟨zx0, zx1, zx2⟩
          have hXc : ((w5.alloc (.cells #[.int .i64 px, .int .i64 py, .int .u32 pi] 33)).drew).cell? ⟨ba, oa, none⟩ = some (.int .i64 px) ∧ ((w5.alloc (.cells #[.int .i64 px, .int .i64 py, .int .u32 pi] 33)).drew).cell? ⟨ba, oa + 1, none⟩ = some (.int .i64 py) ∧ ((w5.alloc (.cells #[.int .i64 px, .int .i64 py, .int .u32 pi] 33)).drew).cell? ⟨ba, oa + 2, none⟩ = some (.int .u32 pi) := by
            have hq := (Below.refl w5.heap.size w5).alloc (Nat.le_refl _) (.cells #[.int .i64 px, .int .i64 py, .int .u32 pi] 33)
            exact ⟨(hq.cell (p := ⟨ba, oa, none⟩) hlA5).trans zx0, (hq.cell (p := ⟨ba, oa + 1, none⟩) hlA5).trans zx1, (hq.cell (p := ⟨ba, oa + 2, none⟩) hlA5).trans zx2⟩
          have hXd : w6.cell? ⟨ba, oa, none⟩ = some (.int .i64 px) ∧ w6.cell? ⟨ba, oa + 1, none⟩ = some (.int .i64 py) ∧ w6.cell? ⟨ba, oa + 2, none⟩ = some (.int .u32 pi) := by
            exact ⟨(B6.cell (p := ⟨ba, oa, none⟩) hba).trans X4.out.1, (B6.cell (p := ⟨ba, oa + 1, none⟩) hba).trans X4.out.2.1, (B6.cell (p := ⟨ba, oa + 2, none⟩) hba).trans X4.out.2.2⟩
          clear hown2 hown3 HOd hg2
          have HL7 := Lib.hid HL6
          clear HL6 hlen hml
          by_cases hcap1 : xa = 1
          · subst hcap1
            obtain rfl : A2 = [] := List.eq_nil_of_length_eq_zero (by omega)
            go_wp2
            go_hide hQ
            go_region_held3 (fun w' => w'.cell? ⟨ba, oa, none⟩ = some (.int .i64 px) ∧ w'.cell? ⟨ba, oa + 1, none⟩ = some (.int .i64 py) ∧ w'.cell? ⟨ba, oa + 2, none⟩ = some (.int .u32 pi))
              (first | (with_reducible exact hXa) | (with_reducible exact hXb) | (with_reducible exact hXc) | (with_reducible exact hXd) | go_keep)
              ((refine step_run_append rfl (.tmp 53) (.tmp 57) rfl R1 (by simp [Act.eval]) (by simp [Act.eval]) ?_; try simp only [Act.put, List.setIfInBounds_toArray, List.set_cons_zero, List.set_cons_succ]))
            all_goals
              subst hQ
              go_wp2
              go_roundw
              case rel => exact ⟨[], (qx, qy, qi) :: B2, O ++ [(px, py, pi)], _, _, a2, 0, xb, c2, rfl, rfl, by rw [HE9.out], by simp, by simpa using hxb, HN, Lib.hid (RdK_of_nil rfl), RB, HM6, by simpa using HL7.out, B6⟩
              case measure => simp [lenOf]
          · have i1 : (1 : Int) ≤ (A2.length : Int) + 1 := by omega
            have i2 : (A2.length : Int) + 1 ≤ (xa : Int) := by omega
            have i3 : ¬ xa - 1 = 0 := by omega
            have i4 : 1 < xa := by omega
            go_wp2
            go_hide hQ
            go_region_held3 (fun w' => w'.cell? ⟨ba, oa, none⟩ = some (.int .i64 px) ∧ w'.cell? ⟨ba, oa + 1, none⟩ = some (.int .i64 py) ∧ w'.cell? ⟨ba, oa + 2, none⟩ = some (.int .u32 pi))
              (first | (with_reducible exact hXa) | (with_reducible exact hXb) | (with_reducible exact hXc) | (with_reducible exact hXd) | go_keep)
              ((refine step_run_append rfl (.tmp 53) (.tmp 57) rfl R1 (by simp [Act.eval]) (by simp [Act.eval]) ?_; try simp only [Act.put, List.setIfInBounds_toArray, List.set_cons_zero, List.set_cons_succ]))
            all_goals
              subst hQ
              go_wp2
              go_roundw
              case rel => exact ⟨A2, (qx, qy, qi) :: B2, O ++ [(px, py, pi)], _, _, a2, xa - 1, xb, c2, rfl, rfl, by rw [HE9.out], by omega, by simpa using hxb, HN, TA, RB, HM6, by simpa using HL7.out, B6⟩
              case measure => simp [lenOf]
        · rw [if_neg hord] at HOR
          have hd : decide (ordX (px, py, pi) (qx, qy, qi) < 0) = false := by simp; omega
          generalize ordX (px, py, pi) (qx, qy, qi) = od at *
          go_wp2
          refine wp_region_below (by kernel_rfl) (by kernel_rfl) ?_
          repeat (quiet_step ((go_at_call 42; exact calls_below (HC.out _))))
          refine wpQuiet_nil ?_
          intro w5 hw'
          have hb6 : Below wr.heap.size wr w5 := by obtain ⟨p, rfl⟩ := hw'; exact p.h
          clear hw'
          have hlA : ba < wr.heap.size := Nat.lt_of_lt_of_le hba hb.size
          have hlB : bb < wr.heap.size := Nat.lt_of_lt_of_le hbb hb.size
          have zx0 := (hb6.cell (p := ⟨ba, oa, none⟩) hlA).trans hx0
          have zx1 := (hb6.cell (p := ⟨ba, oa + 1, none⟩) hlA).trans hx1
          have zx2 := (hb6.cell (p := ⟨ba, oa + 2, none⟩) hlA).trans hx2
          have zy0 := (hb6.cell (p := ⟨bb, ob, none⟩) hlB).trans hy0
          have zy1 := (hb6.cell (p := ⟨bb, ob + 1, none⟩) hlB).trans hy1
          have zy2 := (hb6.cell (p := ⟨bb, ob + 2, none⟩) hlB).trans hy2
          clear hx0 hx1 hx2 hy0 hy1 hy2 kx0 kx1 kx2 ky0 ky1 ky2 HC
          have hlA5 : ba < w5.heap.size := Nat.lt_of_lt_of_le hlA hb6.size
          have hlB5 : bb < w5.heap.size := Nat.lt_of_lt_of_le hlB hb6.size
          have HO5 := ownsRow_below HO.out hb6
          have bw5 := hb.trans (hb6.mono hb.size)
          have hs5 := bw5.size
          clear HO hb hb6
          have HM6 : Hid ((O ++ [(qx, qy, qi)]) ++ mrgP ((px, py, pi) :: A2) B2 = M) := by
            have := HMM.out
            rw [HOR.out, List.append_cons] at this
            exact this
          have HL6 : (O ++ [(qx, qy, qi)]).length + (A2.length + 1) + B2.length = la.length + lb.length := by simp; omega
          clear HMM HOR
          have HOd : ((w5.alloc (.cells #[.int .i64 qx, .int .i64 qy, .int .u32 qi] 33)).drew).ownsRow w4.heap.size 33 3 (.slice ao O.length xo) O.length (O.flatMap ePt) := (HO5.alloc _).drewAny 1
          obtain ⟨v2, w6, R1, hown2, hg2⟩ := run_appendK (ty := 22) (t := 22) (P := Try.prog) (l := [(qx, qy, qi)]) elPoint ePt_len ePt_one w4.heap.size HOd ((RdK.lit ePt_len w5 33 [(qx, qy, qi)] w5.heap.size rfl).below (Below.drewAny _ 1)) 1 (by unfold maxLen; simp; omega) (by simp; omega) (by simp; omega)
          have B6 : Below w4.heap.size w4 w6 := below_grown ((bw5.alloc (by simpa using hs5) _).drew) HOd hg2 (by simp; omega) (Nat.le_refl _)
          obtain ⟨a2, c2, rfl, -, -, -⟩ := RdK.of_owns (l := O ++ [(qx, qy, qi)]) (enc := ePt) ePt_len (by decide) (by simpa using hown2)
          have hown3 : w6.ownsRow w4.heap.size 33 3 (.slice a2 (O ++ [(qx, qy, qi)]).length c2) (O ++ [(qx, qy, qi)]).length ((O ++ [(qx, qy, qi)]).flatMap ePt) := by simpa using hown2
          have HN := Lib.hid hown3
          have E9 : (O ++ [(qx, qy, qi)]).length = O.length + 1 := by simp
          rw [E9] at R1
          have HE9 := Lib.hid E9
          clear E9
          have hXa : w5.cell? ⟨bb, ob, none⟩ = some (.int .i64 qx) ∧ w5.cell? ⟨bb, ob + 1, none⟩ = some (.int .i64 qy) ∧ w5.cell? ⟨bb, ob + 2, none⟩ = some (.int .u32 qi) := ⟨zy0, zy1, zy2⟩
          have hXb : w5.drew.cell? ⟨bb, ob, none⟩ = some (.int .i64 qx) ∧ w5.drew.cell? ⟨bb, ob + 1, none⟩ = some (.int .i64 qy) ∧ w5.drew.cell? ⟨bb, ob + 2, none⟩ = some (.int .u32 qi) := ⟨zy0, zy1, zy2⟩
          have hXc : ((w5.alloc (.cells #[.int .i64 qx, .int .i64 qy, .int .u32 qi] 33)).drew).cell? ⟨bb, ob, none⟩ = some (.int .i64 qx) ∧ ((w5.alloc (.cells #[.int .i64 qx, .int .i64 qy, .int .u32 qi] 33)).drew).cell? ⟨bb, ob + 1, none⟩ = some (.int .i64 qy) ∧ ((w5.alloc (.cells #[.int .i64 qx, .int .i64 qy, .int .u32 qi] 33)).drew).cell? ⟨bb, ob + 2, none⟩ = some (.int .u32 qi) := by
            have hq := (Below.refl w5.heap.size w5).alloc (Nat.le_refl _) (.cells #[.int .i64 qx, .int .i64 qy, .int .u32 qi] 33)
            exact ⟨(hq.cell (p := ⟨bb, ob, none⟩) hlB5).trans zy0, (hq.cell (p := ⟨bb, ob + 1, none⟩) hlB5).trans zy1, (hq.cell (p := ⟨bb, ob + 2, none⟩) hlB5).trans zy2⟩
          have hXd : w6.cell? ⟨bb, ob, none⟩ = some (.int .i64 qx) ∧ w6.cell? ⟨bb, ob + 1, none⟩ = some (.int .i64 qy) ∧ w6.cell? ⟨bb, ob + 2, none⟩ = some (.int .u32 qi) := by
            exact ⟨(B6.cell (p := ⟨bb, ob, none⟩) hbb).trans Y4.out.1, (B6.cell (p := ⟨bb, ob + 1, none⟩) hbb).trans Y4.out.2.1, (B6.cell (p := ⟨bb, ob + 2, none⟩) hbb).trans Y4.out.2.2⟩
          clear hown2 hown3 HOd hg2
          have HL7 := Lib.hid HL6
          clear HL6 hlen hml
          by_cases hcap1 : xb = 1
          · subst hcap1
            obtain rfl : B2 = [] := List.eq_nil_of_length_eq_zero (by omega)
            go_wp2
            go_hide hQ
            go_region_held3 (fun w' => w'.cell? ⟨bb, ob, none⟩ = some (.int .i64 qx) ∧ w'.cell? ⟨bb, ob + 1, none⟩ = some (.int .i64 qy) ∧ w'.cell? ⟨bb, ob + 2, none⟩ = some (.int .u32 qi))
              (first | (with_reducible exact hXa) | (with_reducible exact hXb) | (with_reducible exact hXc) | (with_reducible exact hXd) | go_keep)
              ((refine step_run_append rfl (.tmp 22) (.tmp 26) rfl R1 (by simp [Act.eval]) (by simp [Act.eval]) ?_; try simp only [Act.put, List.setIfInBounds_toArray, List.set_cons_zero, List.set_cons_succ]))
            all_goals
              subst hQ
              go_wp2
              go_roundw
              case rel => exact ⟨(px, py, pi) :: A2, [], O ++ [(qx, qy, qi)], _, _, a2, xa, 0, c2, rfl, rfl, by rw [HE9.out], by simpa using hxa, by simp, HN, RA, Lib.hid (RdK_of_nil rfl), HM6, by simpa using HL7.out, B6⟩
              case measure => simp [lenOf]
          · have i1 : (1 : Int) ≤ (B2.length : Int) + 1 := by omega
            have i2 : (B2.length : Int) + 1 ≤ (xb : Int) := by omega
            have i3 : ¬ xb - 1 = 0 := by omega
            have i4 : 1 < xb := by omega
            go_wp2
            go_hide hQ
            go_region_held3 (fun w' => w'.cell? ⟨bb, ob, none⟩ = some (.int .i64 qx) ∧ w'.cell? ⟨bb, ob + 1, none⟩ = some (.int .i64 qy) ∧ w'.cell? ⟨bb, ob + 2, none⟩ = some (.int .u32 qi))
              (first | (with_reducible exact hXa) | (with_reducible exact hXb) | (with_reducible exact hXc) | (with_reducible exact hXd) | go_keep)
              ((refine step_run_append rfl (.tmp 22) (.tmp 26) rfl R1 (by simp [Act.eval]) (by simp [Act.eval]) ?_; try simp only [Act.put, List.setIfInBounds_toArray, List.set_cons_zero, List.set_cons_succ]))
            all_goals
              subst hQ
              go_wp2
              go_roundw
              case rel => exact ⟨(px, py, pi) :: A2, B2, O ++ [(qx, qy, qi)], _, _, a2, xa, xb - 1, c2, rfl, rfl, by rw [HE9.out], by simpa using hxa, by omega, HN, RA, TB, HM6, by simpa using HL7.out, B6⟩
              case measure => simp [lenOf]

end Go.Proofs.Ytpebefcmloablaa
