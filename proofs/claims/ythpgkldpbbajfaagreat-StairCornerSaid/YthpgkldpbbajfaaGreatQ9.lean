/- Several texts in one: MrgP, Mrg, Bts, MapP, L15p, L15q, SkM. -/
import Derived.Test.YthpgkldpbbajfaaGreatQ8
import Derived.Deep.RegionLaw
import Derived.Deep.RegionHeld3
import Derived.WalkMore
import Derived.Test.YthpgkldpbbajfaaGreatQ5
import Derived.RangeFuncBox
import Derived.Test.YthpgkldpbbajfaaGreatQ4
import Derived.Maps.OwnSet
import Derived.Maps.OwnOps
import Derived.DeepKeys4
import Derived.MapViews
import Derived.WideKeyEntry
import Derived.Lib.SmallJoins
import Derived.Deep.Fields
import Derived.Test.YthpgkldpbbajfaaGreatQ3
import Derived.Deep.CutRange
import Derived.Deep.RegionWith

/- Two stairs as one: the plain law. No function of the program is walked here. -/
namespace Go.Proofs.YthpgkldpbbajfaaGreat

/-- two lists in order, as one -/
def mrgP : List Pt → List Pt → List Pt
  | [], B => B
  | A, [] => A
  | x :: A, y :: B => if ordX x y < 0 then x :: mrgP A (y :: B) else y :: mrgP (x :: A) B
termination_by A B => A.length + B.length

theorem mrgP_nil (B : List Pt) : mrgP [] B = B := by simp [mrgP]
theorem mrgP_nil2 (A : List Pt) : mrgP A [] = A := by cases A <;> simp [mrgP]
theorem mrgP_cons (x : Pt) (A : List Pt) (y : Pt) (B : List Pt) : mrgP (x :: A) (y :: B) = if ordX x y < 0 then x :: mrgP A (y :: B) else y :: mrgP (x :: A) B := by
  rw [mrgP]

theorem mrgP_perm : ∀ (n : Nat) (A B : List Pt), A.length + B.length ≤ n → (mrgP A B).Perm (A ++ B)
  | _, [], B, _ => by rw [mrgP_nil, List.nil_append]
  | _, x :: A, [], _ => by rw [mrgP_nil2, List.append_nil]
  | 0, _ :: _, _ :: _, h => by simp at h
  | n + 1, x :: A, y :: B, h => by
    rw [mrgP_cons]
    split
    · exact (mrgP_perm n A (y :: B) (by simp at h ⊢; omega)).cons x
    · refine ((mrgP_perm n (x :: A) B (by simp at h ⊢; omega)).cons y).trans ?_
      exact (List.perm_middle (l₁ := x :: A)).symm

theorem ltX_total {x y : Pt} (h : ¬ ltX x y) (hi : x.2.2 ≠ y.2.2) : ltX y x := by unfold ltX at *; omega

theorem mrgP_sorted : ∀ (n : Nat) (A B : List Pt), A.length + B.length ≤ n → A.Pairwise ltX → B.Pairwise ltX → (∀ x ∈ A, ∀ y ∈ B, x.2.2 ≠ y.2.2) → (mrgP A B).Pairwise ltX
  | _, [], B, _, _, hB, _ => by rw [mrgP_nil]; exact hB
  | _, x :: A, [], _, hA, _, _ => by rw [mrgP_nil2]; exact hA
  | 0, _ :: _, _ :: _, h, _, _, _ => by simp at h
  | n + 1, x :: A, y :: B, h, hA, hB, hd => by
    have hA' := List.pairwise_cons.1 hA
    have hB' := List.pairwise_cons.1 hB
    rw [mrgP_cons]
    split
    · rename_i ho
      rw [ordX_lt] at ho
      refine List.pairwise_cons.2 ⟨fun z hz => ?_, mrgP_sorted n A (y :: B) (by simp at h ⊢; omega) hA'.2 hB (fun u hu v hv => hd u (by simp [hu]) v hv)⟩
      rcases List.mem_append.1 ((mrgP_perm _ A (y :: B) (Nat.le_refl _)).mem_iff.1 hz) with hz | hz
      · exact hA'.1 z hz
      · rcases List.mem_cons.1 hz with rfl | hz
        · exact ho
        · exact ltX_trans ho (hB'.1 z hz)
    · rename_i ho
      rw [ordX_lt] at ho
      have hyx := ltX_total ho (hd x (by simp) y (by simp))
      refine List.pairwise_cons.2 ⟨fun z hz => ?_, mrgP_sorted n (x :: A) B (by simp at h ⊢; omega) hA hB'.2 (fun u hu v hv => hd u hu v (by simp [hv]))⟩
      rcases List.mem_append.1 ((mrgP_perm _ (x :: A) B (Nat.le_refl _)).mem_iff.1 hz) with hz | hz
      · rcases List.mem_cons.1 hz with rfl | hz
        · exact hyx
        · exact ltX_trans hyx (hA'.1 z hz)
      · exact hB'.1 z hz

theorem right_sorted {l : List Pt} (h : rightF l = true) : l.Pairwise ltX := by
  unfold rightF at h
  rw [Bool.and_eq_true] at h
  refine (chainOK_pairwise h.1).imp fun {p q} hs => ?_
  unfold stR at hs; unfold ltX; omega
theorem right_sky {l : List Pt} (h : rightF l = true) : IsSky l l := by
  unfold rightF at h
  rw [Bool.and_eq_true] at h
  exact (chainOK_sky l).1 h.1
theorem right_unl {l : List Pt} (h : rightF l = true) : (ids l).Nodup := by
  unfold rightF at h
  rw [Bool.and_eq_true] at h
  exact (unl_iff l).1 h.2
theorem right_of_sky {l : List Pt} (h : IsSky l l) (hu : (ids l).Nodup) : rightF l = true := by
  unfold rightF
  rw [Bool.and_eq_true]
  exact ⟨(chainOK_sky l).2 h, (unl_iff l).2 hu⟩

/-- the merged list, scanned, is the skyline of both -/
theorem merge_sky {A B : List Pt} (hA : rightF A = true) (hB : rightF B = true) (hu : (ids (A ++ B)).Nodup) : scanF (mrgP A B) = skyOf (A ++ B) := by
  have hd : ∀ x ∈ A, ∀ y ∈ B, x.2.2 ≠ y.2.2 := by
    intro x hx y hy
    unfold ids at hu
    rw [List.map_append, List.nodup_append] at hu
    exact hu.2.2 _ (List.mem_map_of_mem hx) _ (List.mem_map_of_mem hy)
  have hs := mrgP_sorted _ A B (Nat.le_refl _) (right_sorted hA) (right_sorted hB) hd
  have e : mrgP A B = srtX (A ++ B) := srtX_eq hu hs fun p => (mrgP_perm _ A B (Nat.le_refl _)).mem_iff
  rw [e]
  exact scanF_sky _ (srtX_sorted hu)

end Go.Proofs.YthpgkldpbbajfaaGreat

/- stair.Merge: the skyline of two stairs. -/
namespace Go.Proofs.YthpgkldpbbajfaaGreat
open Go.RowKit Go.Maps

theorem run_appendK {α : Type} {P : Program} {enc : α → List Value} {sz : Nat} {t ty e : TypeId} {bytes : Nat} (E : ElemOK P t e sz bytes) (hk : ∀ x, (enc x).length = sz) (h1 : ∀ x, ∀ u ∈ enc x, u.oneCell' = true) (base : Nat) {v : Value} {n : Nat} {xs : List Value} {W : World} (hown : W.ownsRow base e sz v n xs) {ad : Option Addr} {l : List α} (hl : RdK enc sz W ad l)
    (c : Nat) (h63 : n + l.length ≤ maxLen) (hbytes : (n + l.length) * bytes ≤ 140737488355328) (hbase : base ≤ W.heap.size) :
    ∃ v' w', (Builtin.append_ #[t, t] ty #[v, .slice ad l.length c]).run P W = .ok v' w' ∧ w'.ownsRow base e sz v' (n + l.length) (xs ++ l.flatMap enc) ∧ W.grownBy w' v.ownBlock := by
  rcases hl with rfl | ⟨b, off, rfl, hb, hc⟩
  · exact ⟨v, W, run_append_nothing E hown ad c, by simpa using hown, ⟨rfl, rfl, rfl, Nat.le_refl _, fun _ _ _ => rfl⟩⟩
  · obtain ⟨ht, ⟨i, z, hi, hz, hsize, hby, hzs⟩, hsz⟩ := E
    obtain ⟨v', w', h2, h3, h4, _⟩ := run_append_own (P := P) W base t ty e i z sz bytes ht hi hz hsize hby hzs hsz v n xs hown ⟨b, off, none⟩ l.length c (l.flatMap enc) (flat_len hk l) (by
      intro j u hu
      have hadd : (⟨b, off, none⟩ : Addr).add j = ⟨b, off + j, none⟩ := by unfold Addr.add; split <;> simp_all
      rw [hadd]
      have hj : j < l.length * sz := by
        have := (List.getElem?_eq_some_iff.1 hu).1
        rw [flat_len hk] at this
        exact this
      have hi' : j / sz < l.length := (Nat.div_lt_iff_lt_mul hsz).2 hj
      have h2 := hc (j / sz) hi' (j % sz) (Nat.mod_lt _ hsz)
      have h3 := flat_get hk l (j / sz) hi' (j % sz) (Nat.mod_lt _ hsz)
      have e1 : j / sz * sz + j % sz = j := by rw [Nat.mul_comm]; exact Nat.div_add_mod j sz
      rw [e1] at h3
      rw [Nat.add_assoc, e1] at h2
      rw [h2, ← h3]
      exact hu) (by
      intro u hu
      obtain ⟨y, _, hy⟩ := List.mem_flatMap.1 hu
      exact h1 y u hy) h63 hbytes hbase
    exact ⟨v', w', h2, h3, h4⟩

theorem byX_below (p q : Pt) (W : World) : Calls Tryz.prog 57 #[vPt p.1 p.2.1 p.2.2, vPt q.1 q.2.1 q.2.2] W fun e w' => e = .returned (.int .i64 (ordX p q)) ∧ Below W.heap.size W w' :=
  (iByX p q W).mono fun _ _ h => ⟨h.1, h.2.below (Nat.le_refl _)⟩

def lenOf : Value → Nat
  | .slice _ n _ => n
  | _ => 0

theorem lsts_two {W : World} {a b : Option Addr} {la lb : List Pt} (ca cb : Nat) (t : TypeId) (h : RdK ePt 3 W a la) (h2 : RdK ePt 3 W b lb) : Lsts (W.alloc (.cells #[.slice a la.length ca, .slice b lb.length cb] t)) W.heap.size [(a, la, ca), (b, lb, cb)] := by
  intro j hj
  simp only [List.length_cons, List.length_nil] at hj
  obtain rfl | rfl : j = 0 ∨ j = 1 := by omega
  · exact ⟨by rw [World.cell?_alloc_at _ _ _ _ rfl]; rfl, h.below ((Below.refl _ _).alloc (Nat.le_refl _) _)⟩
  · exact ⟨by rw [World.cell?_alloc_at _ _ _ _ rfl]; rfl, h2.below ((Below.refl _ _).alloc (Nat.le_refl _) _)⟩
theorem allP_two (a b : Option Addr) (la lb : List Pt) (ca cb : Nat) : allP [(a, la, ca), (b, lb, cb)] = la ++ lb := by simp [allP]

theorem wfI_append {A B : List Pt} (h : wfI A) (h2 : wfI B) : wfI (A ++ B) := fun p hp => by
  rcases List.mem_append.1 hp with hp | hp
  · exact h p hp
  · exact h2 p hp

theorem RdK_of_nil {α : Type} {enc : α → List Value} {sz : Nat} {w : World} {a : Option Addr} {l : List α} (h : l.length = 0) : RdK enc sz w a l := .inl (List.eq_nil_of_length_eq_zero h)
theorem RdK.tail {α : Type} {enc : α → List Value} {sz : Nat} {w : World} {b off : Nat} {x : α} {l : List α} (h : RdK enc sz w (some ⟨b, off, none⟩) (x :: l)) : RdK enc sz w (some ⟨b, off + sz, none⟩) l := by
  have := h.drop 1
  simpa using this

set_option maxRecDepth 100000 in
set_option maxHeartbeats 2000000 in
theorem merge_stair (a b : Option Addr) (la lb : List Pt) (na nb ca cb : Nat) (w : World) (hna : la.length = na) (hnb : lb.length = nb) (ha : RdK ePt 3 w a la) (hb : RdK ePt 3 w b lb) (hl : na + nb ≤ 1000000) (hwa : wfI la) (hwb : wfI lb) (hno : (rightF la && rightF lb) = false) :
    Calls Tryz.prog 51 #[.slice a na ca, .slice b nb cb] w fun e w' => e = .returned (.tuple #[.slice none 0 0, .int .i64 150]) ∧ Below w.heap.size w w' := by
  subst hna hnb
  have C1 := Lib.hid (right_calls a la la.length ca w rfl ha (by omega) hwa)
  have C2 := Lib.hid (fun W (h : Below w.heap.size w W) => right_calls b lb lb.length cb W rfl (hb.below h) (by omega) hwb)
  clear ha hb hwa hwb
  cases h1 : rightF la
  · rw [h1] at C1
    clear hno C2
    go_enter Tryz.func51, Tryz.ntmps51
    go_wp2
    go_step3
    go_wp2_with fail
    refine C1.out.mono ?_
    rintro e w1 ⟨rfl, hb1⟩
    go_wp2
    rw [Exit.noGoto_ret]
    go_ret2
    exact ⟨rfl, hb1⟩
  · have h2 : rightF lb = false := by simpa [h1] using hno
    rw [h1] at C1
    rw [h2] at C2
    clear hno
    go_enter Tryz.func51, Tryz.ntmps51
    go_wp2
    go_step3
    go_wp2_with fail
    refine C1.out.mono ?_
    rintro e w1 ⟨rfl, hb1⟩
    go_wp2_with fail
    refine (C2.out w1 hb1).mono ?_
    rintro e w2 ⟨rfl, hb2⟩
    go_wp2
    rw [Exit.noGoto_ret]
    go_ret2
    exact ⟨rfl, hb1.trans (hb2.mono hb1.size)⟩

set_option maxRecDepth 100000 in
set_option maxHeartbeats 2000000 in
theorem merge_arg (a b : Option Addr) (la lb : List Pt) (na nb ca cb : Nat) (w : World) (hna : la.length = na) (hnb : lb.length = nb) (ha : RdK ePt 3 w a la) (hb : RdK ePt 3 w b lb) (hl : na + nb ≤ 1000000) (hwa : wfI la) (hwb : wfI lb) (h1 : rightF la = true) (h2 : rightF lb = true) (hu : unl (la ++ lb) = false) :
    Calls Tryz.prog 51 #[.slice a na ca, .slice b nb cb] w fun e w' => e = .returned (.tuple #[.slice none 0 0, .int .i64 2]) ∧ Below w.heap.size w w' := by
  subst hna hnb
  have C1 := Lib.hid (right_calls a la la.length ca w rfl ha (by omega) hwa)
  have C2 := Lib.hid (fun W (h : Below w.heap.size w W) => right_calls b lb lb.length cb W rfl (hb.below h) (by omega) hwb)
  have C3 := Lib.hid (fun W (h : Below w.heap.size w W) => unlike_calls W.heap.size 2 [(a, la, ca), (b, lb, cb)] _ (by simp) (lsts_two ca cb 22 (ha.below h) (hb.below h)) (by rw [allP_two]; simpa using hl) (by simp) (by rw [allP_two]; exact wfI_append hwa hwb))
  rw [h1] at C1
  rw [h2] at C2
  rw [allP_two, hu] at C3
  clear ha hb hwa hwb h1 h2 hu
  go_enter Tryz.func51, Tryz.ntmps51
  go_wp2
  go_step3
  go_wp2_with fail
  refine C1.out.mono ?_
  rintro e w1 ⟨rfl, hb1⟩
  go_wp2_with fail
  refine (C2.out w1 hb1).mono ?_
  rintro e w2 ⟨rfl, hb2⟩
  have hb3 := hb1.trans (hb2.mono hb1.size)
  go_wp2_with fail
  refine (C3.out w2 hb3).mono ?_
  rintro e w4 ⟨rfl, hb4⟩
  go_wp2
  rw [Exit.noGoto_ret]
  go_ret2
  exact ⟨rfl, (hb3.alloc hb3.size _).trans (hb4.mono (by have := hb3.size; simp; omega))⟩

set_option maxRecDepth 100000 in
set_option maxHeartbeats 4000000 in
theorem merge_yes (a b : Option Addr) (la lb : List Pt) (na nb ca cb : Nat) (w : World) (hna : la.length = na) (hnb : lb.length = nb) (hca : na ≤ ca) (hcb : nb ≤ cb) (ha : RdK ePt 3 w a la) (hb : RdK ePt 3 w b lb) (hl : na + nb ≤ 1000000) (hwa : wfI la) (hwb : wfI lb) (h1 : rightF la = true) (h2 : rightF lb = true) (hu : unl (la ++ lb) = true) :
    Calls Tryz.prog 51 #[.slice a na ca, .slice b nb cb] w fun e w' => ∃ v, e = .returned (.tuple #[v, .int .i64 0]) ∧ w'.ownsRow w.heap.size 34 3 v (skyOf (la ++ lb)).length ((skyOf (la ++ lb)).flatMap ePt) ∧ Below w.heap.size w w' := by
  subst hna hnb
  have hms := merge_sky h1 h2 ((unl_iff _).1 hu)
  have hml : (mrgP la lb).length = la.length + lb.length := by have := (mrgP_perm _ la lb (Nat.le_refl _)).length_eq; simpa using this
  rw [← hms]
  have C1 := Lib.hid (right_calls a la la.length ca w rfl ha (by omega) hwa)
  have C2 := Lib.hid (fun W (h : Below w.heap.size w W) => right_calls b lb lb.length cb W rfl (hb.below h) (by omega) hwb)
  have C3 := Lib.hid (fun W (h : Below w.heap.size w W) => unlike_calls W.heap.size 2 [(a, la, ca), (b, lb, cb)] _ (by simp) (lsts_two ca cb 22 (ha.below h) (hb.below h)) (by rw [allP_two]; simpa using hl) (by simp) (by rw [allP_two]; exact wfI_append hwa hwb))
  rw [h1] at C1
  rw [h2] at C2
  rw [allP_two, hu] at C3
  have RA := Lib.hid ha
  have RB := Lib.hid hb
  clear ha hb hwa hwb h1 h2 hu hms
  generalize hM : mrgP la lb = M at *
  have HM := Lib.hid hM
  clear hM
  go_enter Tryz.func51, Tryz.ntmps51
  go_wp2
  go_step3
  go_wp2_with fail
  refine C1.out.mono ?_
  rintro e w1 ⟨rfl, hb1⟩
  go_wp2_with fail
  refine (C2.out w1 hb1).mono ?_
  rintro e w2 ⟨rfl, hb2⟩
  have hb3 := hb1.trans (hb2.mono hb1.size)
  go_wp2_with fail
  refine (C3.out w2 hb3).mono ?_
  rintro e w4 ⟨rfl, hb4⟩
  have hb5 := (hb3.alloc hb3.size (.cells #[.slice a la.length ca, .slice b lb.length cb] 22)).trans (hb4.mono (by have := hb3.size; simp; omega))
  have RA4 := Lib.hid (RA.out.below hb5)
  have RB4 := Lib.hid (RB.out.below hb5)
  clear hb1 hb2 hb3 hb4 C1 C2 C3 RA RB
  go_wp2
  go_step3
  go_wp2
  go_loopw [0, 1, 6] (fun va vb vo wr => ∃ (A B O : List Pt) (aa ab ao : Option Addr) (xa xb xo : Nat), va = .slice aa A.length xa ∧ vb = .slice ab B.length xb ∧ vo = .slice ao O.length xo ∧ A.length ≤ xa ∧ B.length ≤ xb ∧
      Hid (wr.ownsRow w4.heap.size 34 3 (.slice ao O.length xo) O.length (O.flatMap ePt)) ∧ Hid (RdK ePt 3 w4 aa A) ∧ Hid (RdK ePt 3 w4 ab B) ∧ Hid (O ++ mrgP A B = M) ∧ O.length + A.length + B.length = la.length + lb.length ∧ Below w4.heap.size w4 wr)
    (fun va vb _ _ => lenOf va + lenOf vb)
  case atStart => exact ⟨la, lb, [], a, b, none, ca, cb, 0, rfl, rfl, rfl, hca, hcb, World.ownsRow_nil _ _ _ _, RA4, RB4, HM, by simp, Below.refl _ _⟩
  case round =>
    obtain ⟨A, B, O, aa, ab, ao, xa, xb, xo, rfl, rfl, rfl, hxa, hxb, HO, RA, RB, HMM, hlen, hb⟩ := hrel
    cases A with
    | nil =>
      rw [mrgP_nil] at HMM
      simp only [List.length_nil] at hxa hlen ⊢
      go_wp2_with (at_builtin; refine wp_appendK elPoint ePt_len ePt_one w4.heap.size HO.out (RB.out.below hb) rfl _ _ rfl rfl xb rfl (by unfold maxLen; omega) (by omega) hb.size ?_; intro v' w6 hown' hg)
      rw [← List.flatMap_append, HMM.out] at hown'
      obtain ⟨a6, c6, rfl, hn6, _, hr6⟩ := RdK.of_owns ePt_len (by decide) hown'
      have B6 : Below w.heap.size w w6 := hb5.trans ((below_grown hb HO.out hg hb.size (Nat.le_refl _)).mono hb5.size)
      refine (scan_calls rfl hr6 (by omega)).mono ?_
      rintro e w7 ⟨v7, rfl, hown7, hb7⟩
      go_wp2
      rw [Exit.noGoto_ret]
      go_ret2
      exact ⟨_, rfl, ownsRow_mono hown7 B6.size, B6.trans (hb7.mono B6.size)⟩
    | cons x A2 =>
      cases B with
      | nil =>
        rw [mrgP_nil2] at HMM
        simp only [List.length_nil, List.length_cons] at hxa hxb hlen ⊢
        go_wp2_with (at_builtin; refine wp_appendK (l := x :: A2) elPoint ePt_len ePt_one w4.heap.size HO.out (RA.out.below hb) rfl _ _ rfl rfl xa rfl (by unfold maxLen; simp; omega) (by simp; omega) hb.size ?_; intro v' w6 hown' hg)
        rw [← List.flatMap_append, HMM.out] at hown'
        obtain ⟨a6, c6, rfl, hn6, _, hr6⟩ := RdK.of_owns ePt_len (by decide) hown'
        have B6 : Below w.heap.size w w6 := hb5.trans ((below_grown hb HO.out hg hb.size (Nat.le_refl _)).mono hb5.size)
        refine (scan_calls rfl hr6 (by omega)).mono ?_
        rintro e w7 ⟨v7, rfl, hown7, hb7⟩
        go_wp2
        rw [Exit.noGoto_ret]
        go_ret2
        exact ⟨_, rfl, ownsRow_mono hown7 B6.size, B6.trans (hb7.mono B6.size)⟩
      | cons y B2 =>
        simp only [List.length_cons] at hlen
        obtain ⟨ba, oa, rfl, hba, hcA⟩ := RA.out.get (by simp)
        obtain ⟨bb, ob, rfl, hbb, hcB⟩ := RB.out.get (by simp)
        have TA := Lib.hid (RdK.tail RA.out)
        have TB := Lib.hid (RdK.tail RB.out)
        have HOR := Lib.hid (mrgP_cons x A2 y B2)
        obtain ⟨px, py, pi⟩ := x
        obtain ⟨qx, qy, qi⟩ := y
        have x0 := hcA 0 (by simp) 0 (by omega)
        have x1 := hcA 0 (by simp) 1 (by omega)
        have x2 := hcA 0 (by simp) 2 (by omega)
        have y0 := hcB 0 (by simp) 0 (by omega)
        have y1 := hcB 0 (by simp) 1 (by omega)
        have y2 := hcB 0 (by simp) 2 (by omega)
        simp only [List.getElem_cons_zero, ePt, List.getElem?_cons_zero, List.getElem?_cons_succ, Nat.add_zero, Nat.zero_mul] at x0 x1 x2 y0 y1 y2
        clear hcA hcB
        have hx0 := (hb.cell (p := ⟨ba, oa, none⟩) hba).trans x0
        have hx1 := (hb.cell (p := ⟨ba, oa + 1, none⟩) hba).trans x1
        have hx2 := (hb.cell (p := ⟨ba, oa + 2, none⟩) hba).trans x2
        have hy0 := (hb.cell (p := ⟨bb, ob, none⟩) hbb).trans y0
        have hy1 := (hb.cell (p := ⟨bb, ob + 1, none⟩) hbb).trans y1
        have hy2 := (hb.cell (p := ⟨bb, ob + 2, none⟩) hbb).trans y2
        have X4 := Lib.hid (And.intro x0 (And.intro x1 x2))
        have Y4 := Lib.hid (And.intro y0 (And.intro y1 y2))
        clear x0 x1 x2 y0 y1 y2
        have kx0 := cell_belowW hx0
        have kx1 := cell_belowW hx1
        have kx2 := cell_belowW hx2
        have ky0 := cell_belowW hy0
        have ky1 := cell_belowW hy1
        have ky2 := cell_belowW hy2
        have HC := Lib.hid (fun W => byX_below (px, py, pi) (qx, qy, qi) W)
        simp only [List.length_cons] at hxa hxb ⊢
        by_cases hord : ordX (px, py, pi) (qx, qy, qi) < 0
        · rw [if_pos hord] at HOR
          have hd : decide (ordX (px, py, pi) (qx, qy, qi) < 0) = true := by simp [hord]
          generalize ordX (px, py, pi) (qx, qy, qi) = od at *
          go_wp2
          refine wp_region_below (by kernel_rfl) (by kernel_rfl) ?_
          repeat (quiet_step ((go_at_call 57; exact calls_below (HC.out _))))
          refine wpQuiet_nil ?_
          intro w5 hw'
          have hb6 : Below wr.heap.size wr w5 := by obtain ⟨p, rfl⟩ := hw'; exact p.h
          clear hw'
          have hlA : ba < wr.heap.size := Nat.lt_of_lt_of_le hba hb.size
          have hlB : bb < wr.heap.size := Nat.lt_of_lt_of_le hbb hb.size
          have zx0 := (hb6.cell (p := ⟨ba, oa, none⟩) hlA).trans hx0
          have zx1 := (hb6.cell (p := ⟨ba, oa + 1, none⟩) hlA).trans hx1
          have zx2 := (hb6.cell (p := ⟨ba, oa + 2, none⟩) hlA).trans hx2
          have zy0 := (hb6.cell (p := ⟨bb, ob, none⟩) hlB).trans hy0
          have zy1 := (hb6.cell (p := ⟨bb, ob + 1, none⟩) hlB).trans hy1
          have zy2 := (hb6.cell (p := ⟨bb, ob + 2, none⟩) hlB).trans hy2
          clear hx0 hx1 hx2 hy0 hy1 hy2 kx0 kx1 kx2 ky0 ky1 ky2 HC
          have hlA5 : ba < w5.heap.size := Nat.lt_of_lt_of_le hlA hb6.size
          have hlB5 : bb < w5.heap.size := Nat.lt_of_lt_of_le hlB hb6.size
          have HO5 := ownsRow_below HO.out hb6
          have bw5 := hb.trans (hb6.mono hb.size)
          have hs5 := bw5.size
          clear HO hb hb6
          have HM6 : Hid ((O ++ [(px, py, pi)]) ++ mrgP A2 ((qx, qy, qi) :: B2) = M) := by
            have := HMM.out
            rw [HOR.out, List.append_cons] at this
            exact this
          have HL6 : (O ++ [(px, py, pi)]).length + A2.length + (B2.length + 1) = la.length + lb.length := by simp; omega
          clear HMM HOR
          have HOd : ((w5.alloc (.cells #[.int .i64 px, .int .i64 py, .int .u32 pi] 34)).drew).ownsRow w4.heap.size 34 3 (.slice ao O.length xo) O.length (O.flatMap ePt) := (HO5.alloc _).drewAny 1
          obtain ⟨v2, w6, R1, hown2, hg2⟩ := run_appendK (ty := 22) (t := 22) (P := Tryz.prog) (l := [(px, py, pi)]) elPoint ePt_len ePt_one w4.heap.size HOd ((RdK.lit ePt_len w5 34 [(px, py, pi)] w5.heap.size rfl).below (Below.drewAny _ 1)) 1 (by unfold maxLen; simp; omega) (by simp; omega) (by simp; omega)
          have B6 : Below w4.heap.size w4 w6 := below_grown ((bw5.alloc (by simpa using hs5) _).drew) HOd hg2 (by simp; omega) (Nat.le_refl _)
          obtain ⟨a2, c2, rfl, -, -, -⟩ := RdK.of_owns (l := O ++ [(px, py, pi)]) (enc := ePt) ePt_len (by decide) (by simpa using hown2)
          have hown3 : w6.ownsRow w4.heap.size 34 3 (.slice a2 (O ++ [(px, py, pi)]).length c2) (O ++ [(px, py, pi)]).length ((O ++ [(px, py, pi)]).flatMap ePt) := by simpa using hown2
          have HN := Lib.hid hown3
          have E9 : (O ++ [(px, py, pi)]).length = O.length + 1 := by simp
          rw [E9] at R1
          have HE9 := Lib.hid E9
          clear E9
          have hXa : w5.cell? ⟨ba, oa, none⟩ = some (.int .i64 px) ∧ w5.cell? ⟨ba, oa + 1, none⟩ = some (.int .i64 py) ∧ w5.cell? ⟨ba, oa + 2, none⟩ = some (.int .u32 pi) := ⟨zx0, zx1, zx2⟩
          have hXb : w5.drew.cell? ⟨ba, oa, none⟩ = some (.int .i64 px) ∧ w5.drew.cell? ⟨ba, oa + 1, none⟩ = some (.int .i64 py) ∧ w5.drew.cell? ⟨ba, oa + 2, none⟩ = some (.int .u32 pi) := ⟨zx0, zx1, zx2⟩
          have hXc : ((w5.alloc (.cells #[.int .i64 px, .int .i64 py, .int .u32 pi] 34)).drew).cell? ⟨ba, oa, none⟩ = some (.int .i64 px) ∧ ((w5.alloc (.cells #[.int .i64 px, .int .i64 py, .int .u32 pi] 34)).drew).cell? ⟨ba, oa + 1, none⟩ = some (.int .i64 py) ∧ ((w5.alloc (.cells #[.int .i64 px, .int .i64 py, .int .u32 pi] 34)).drew).cell? ⟨ba, oa + 2, none⟩ = some (.int .u32 pi) := by
            have hq := (Below.refl w5.heap.size w5).alloc (Nat.le_refl _) (.cells #[.int .i64 px, .int .i64 py, .int .u32 pi] 34)
            exact ⟨(hq.cell (p := ⟨ba, oa, none⟩) hlA5).trans zx0, (hq.cell (p := ⟨ba, oa + 1, none⟩) hlA5).trans zx1, (hq.cell (p := ⟨ba, oa + 2, none⟩) hlA5).trans zx2⟩
          have hXd : w6.cell? ⟨ba, oa, none⟩ = some (.int .i64 px) ∧ w6.cell? ⟨ba, oa + 1, none⟩ = some (.int .i64 py) ∧ w6.cell? ⟨ba, oa + 2, none⟩ = some (.int .u32 pi) := by
            exact ⟨(B6.cell (p := ⟨ba, oa, none⟩) hba).trans X4.out.1, (B6.cell (p := ⟨ba, oa + 1, none⟩) hba).trans X4.out.2.1, (B6.cell (p := ⟨ba, oa + 2, none⟩) hba).trans X4.out.2.2⟩
          clear hown2 hown3 HOd hg2
          have HL7 := Lib.hid HL6
          clear HL6 hlen hml
          by_cases hcap1 : xa = 1
          · subst hcap1
            obtain rfl : A2 = [] := List.eq_nil_of_length_eq_zero (by omega)
            go_wp2
            go_hide hQ
            go_region_held3 (fun w' => w'.cell? ⟨ba, oa, none⟩ = some (.int .i64 px) ∧ w'.cell? ⟨ba, oa + 1, none⟩ = some (.int .i64 py) ∧ w'.cell? ⟨ba, oa + 2, none⟩ = some (.int .u32 pi))
              (first | (with_reducible exact hXa) | (with_reducible exact hXb) | (with_reducible exact hXc) | (with_reducible exact hXd) | go_keep)
              ((refine step_run_append rfl (.tmp 53) (.tmp 57) rfl R1 (by simp [Act.eval]) (by simp [Act.eval]) ?_; try simp only [Act.put, List.setIfInBounds_toArray, List.set_cons_zero, List.set_cons_succ]))
            all_goals
              subst hQ
              go_wp2
              go_roundw
              case rel => exact ⟨[], (qx, qy, qi) :: B2, O ++ [(px, py, pi)], _, _, a2, 0, xb, c2, rfl, rfl, by rw [HE9.out], by simp, by simpa using hxb, HN, Lib.hid (RdK_of_nil rfl), RB, HM6, by simpa using HL7.out, B6⟩
              case measure => simp [lenOf]
          · have i1 : (1 : Int) ≤ (A2.length : Int) + 1 := by omega
            have i2 : (A2.length : Int) + 1 ≤ (xa : Int) := by omega
            have i3 : ¬ xa - 1 = 0 := by omega
            have i4 : 1 < xa := by omega
            go_wp2
            go_hide hQ
            go_region_held3 (fun w' => w'.cell? ⟨ba, oa, none⟩ = some (.int .i64 px) ∧ w'.cell? ⟨ba, oa + 1, none⟩ = some (.int .i64 py) ∧ w'.cell? ⟨ba, oa + 2, none⟩ = some (.int .u32 pi))
              (first | (with_reducible exact hXa) | (with_reducible exact hXb) | (with_reducible exact hXc) | (with_reducible exact hXd) | go_keep)
              ((refine step_run_append rfl (.tmp 53) (.tmp 57) rfl R1 (by simp [Act.eval]) (by simp [Act.eval]) ?_; try simp only [Act.put, List.setIfInBounds_toArray, List.set_cons_zero, List.set_cons_succ]))
            all_goals
              subst hQ
              go_wp2
              go_roundw
              case rel => exact ⟨A2, (qx, qy, qi) :: B2, O ++ [(px, py, pi)], _, _, a2, xa - 1, xb, c2, rfl, rfl, by rw [HE9.out], by omega, by simpa using hxb, HN, TA, RB, HM6, by simpa using HL7.out, B6⟩
              case measure => simp [lenOf]
        · rw [if_neg hord] at HOR
          have hd : decide (ordX (px, py, pi) (qx, qy, qi) < 0) = false := by simp; omega
          generalize ordX (px, py, pi) (qx, qy, qi) = od at *
          go_wp2
          refine wp_region_below (by kernel_rfl) (by kernel_rfl) ?_
          repeat (quiet_step ((go_at_call 57; exact calls_below (HC.out _))))
          refine wpQuiet_nil ?_
          intro w5 hw'
          have hb6 : Below wr.heap.size wr w5 := by obtain ⟨p, rfl⟩ := hw'; exact p.h
          clear hw'
          have hlA : ba < wr.heap.size := Nat.lt_of_lt_of_le hba hb.size
          have hlB : bb < wr.heap.size := Nat.lt_of_lt_of_le hbb hb.size
          have zx0 := (hb6.cell (p := ⟨ba, oa, none⟩) hlA).trans hx0
          have zx1 := (hb6.cell (p := ⟨ba, oa + 1, none⟩) hlA).trans hx1
          have zx2 := (hb6.cell (p := ⟨ba, oa + 2, none⟩) hlA).trans hx2
          have zy0 := (hb6.cell (p := ⟨bb, ob, none⟩) hlB).trans hy0
          have zy1 := (hb6.cell (p := ⟨bb, ob + 1, none⟩) hlB).trans hy1
          have zy2 := (hb6.cell (p := ⟨bb, ob + 2, none⟩) hlB).trans hy2
          clear hx0 hx1 hx2 hy0 hy1 hy2 kx0 kx1 kx2 ky0 ky1 ky2 HC
          have hlA5 : ba < w5.heap.size := Nat.lt_of_lt_of_le hlA hb6.size
          have hlB5 : bb < w5.heap.size := Nat.lt_of_lt_of_le hlB hb6.size
          have HO5 := ownsRow_below HO.out hb6
          have bw5 := hb.trans (hb6.mono hb.size)
          have hs5 := bw5.size
          clear HO hb hb6
          have HM6 : Hid ((O ++ [(qx, qy, qi)]) ++ mrgP ((px, py, pi) :: A2) B2 = M) := by
            have := HMM.out
            rw [HOR.out, List.append_cons] at this
            exact this
          have HL6 : (O ++ [(qx, qy, qi)]).length + (A2.length + 1) + B2.length = la.length + lb.length := by simp; omega
          clear HMM HOR
          have HOd : ((w5.alloc (.cells #[.int .i64 qx, .int .i64 qy, .int .u32 qi] 34)).drew).ownsRow w4.heap.size 34 3 (.slice ao O.length xo) O.length (O.flatMap ePt) := (HO5.alloc _).drewAny 1
          obtain ⟨v2, w6, R1, hown2, hg2⟩ := run_appendK (ty := 22) (t := 22) (P := Tryz.prog) (l := [(qx, qy, qi)]) elPoint ePt_len ePt_one w4.heap.size HOd ((RdK.lit ePt_len w5 34 [(qx, qy, qi)] w5.heap.size rfl).below (Below.drewAny _ 1)) 1 (by unfold maxLen; simp; omega) (by simp; omega) (by simp; omega)
          have B6 : Below w4.heap.size w4 w6 := below_grown ((bw5.alloc (by simpa using hs5) _).drew) HOd hg2 (by simp; omega) (Nat.le_refl _)
          obtain ⟨a2, c2, rfl, -, -, -⟩ := RdK.of_owns (l := O ++ [(qx, qy, qi)]) (enc := ePt) ePt_len (by decide) (by simpa using hown2)
          have hown3 : w6.ownsRow w4.heap.size 34 3 (.slice a2 (O ++ [(qx, qy, qi)]).length c2) (O ++ [(qx, qy, qi)]).length ((O ++ [(qx, qy, qi)]).flatMap ePt) := by simpa using hown2
          have HN := Lib.hid hown3
          have E9 : (O ++ [(qx, qy, qi)]).length = O.length + 1 := by simp
          rw [E9] at R1
          have HE9 := Lib.hid E9
          clear E9
          have hXa : w5.cell? ⟨bb, ob, none⟩ = some (.int .i64 qx) ∧ w5.cell? ⟨bb, ob + 1, none⟩ = some (.int .i64 qy) ∧ w5.cell? ⟨bb, ob + 2, none⟩ = some (.int .u32 qi) := ⟨zy0, zy1, zy2⟩
          have hXb : w5.drew.cell? ⟨bb, ob, none⟩ = some (.int .i64 qx) ∧ w5.drew.cell? ⟨bb, ob + 1, none⟩ = some (.int .i64 qy) ∧ w5.drew.cell? ⟨bb, ob + 2, none⟩ = some (.int .u32 qi) := ⟨zy0, zy1, zy2⟩
          have hXc : ((w5.alloc (.cells #[.int .i64 qx, .int .i64 qy, .int .u32 qi] 34)).drew).cell? ⟨bb, ob, none⟩ = some (.int .i64 qx) ∧ ((w5.alloc (.cells #[.int .i64 qx, .int .i64 qy, .int .u32 qi] 34)).drew).cell? ⟨bb, ob + 1, none⟩ = some (.int .i64 qy) ∧ ((w5.alloc (.cells #[.int .i64 qx, .int .i64 qy, .int .u32 qi] 34)).drew).cell? ⟨bb, ob + 2, none⟩ = some (.int .u32 qi) := by
            have hq := (Below.refl w5.heap.size w5).alloc (Nat.le_refl _) (.cells #[.int .i64 qx, .int .i64 qy, .int .u32 qi] 34)
            exact ⟨(hq.cell (p := ⟨bb, ob, none⟩) hlB5).trans zy0, (hq.cell (p := ⟨bb, ob + 1, none⟩) hlB5).trans zy1, (hq.cell (p := ⟨bb, ob + 2, none⟩) hlB5).trans zy2⟩
          have hXd : w6.cell? ⟨bb, ob, none⟩ = some (.int .i64 qx) ∧ w6.cell? ⟨bb, ob + 1, none⟩ = some (.int .i64 qy) ∧ w6.cell? ⟨bb, ob + 2, none⟩ = some (.int .u32 qi) := by
            exact ⟨(B6.cell (p := ⟨bb, ob, none⟩) hbb).trans Y4.out.1, (B6.cell (p := ⟨bb, ob + 1, none⟩) hbb).trans Y4.out.2.1, (B6.cell (p := ⟨bb, ob + 2, none⟩) hbb).trans Y4.out.2.2⟩
          clear hown2 hown3 HOd hg2
          have HL7 := Lib.hid HL6
          clear HL6 hlen hml
          by_cases hcap1 : xb = 1
          · subst hcap1
            obtain rfl : B2 = [] := List.eq_nil_of_length_eq_zero (by omega)
            go_wp2
            go_hide hQ
            go_region_held3 (fun w' => w'.cell? ⟨bb, ob, none⟩ = some (.int .i64 qx) ∧ w'.cell? ⟨bb, ob + 1, none⟩ = some (.int .i64 qy) ∧ w'.cell? ⟨bb, ob + 2, none⟩ = some (.int .u32 qi))
              (first | (with_reducible exact hXa) | (with_reducible exact hXb) | (with_reducible exact hXc) | (with_reducible exact hXd) | go_keep)
              ((refine step_run_append rfl (.tmp 22) (.tmp 26) rfl R1 (by simp [Act.eval]) (by simp [Act.eval]) ?_; try simp only [Act.put, List.setIfInBounds_toArray, List.set_cons_zero, List.set_cons_succ]))
            all_goals
              subst hQ
              go_wp2
              go_roundw
              case rel => exact ⟨(px, py, pi) :: A2, [], O ++ [(qx, qy, qi)], _, _, a2, xa, 0, c2, rfl, rfl, by rw [HE9.out], by simpa using hxa, by simp, HN, RA, Lib.hid (RdK_of_nil rfl), HM6, by simpa using HL7.out, B6⟩
              case measure => simp [lenOf]
          · have i1 : (1 : Int) ≤ (B2.length : Int) + 1 := by omega
            have i2 : (B2.length : Int) + 1 ≤ (xb : Int) := by omega
            have i3 : ¬ xb - 1 = 0 := by omega
            have i4 : 1 < xb := by omega
            go_wp2
            go_hide hQ
            go_region_held3 (fun w' => w'.cell? ⟨bb, ob, none⟩ = some (.int .i64 qx) ∧ w'.cell? ⟨bb, ob + 1, none⟩ = some (.int .i64 qy) ∧ w'.cell? ⟨bb, ob + 2, none⟩ = some (.int .u32 qi))
              (first | (with_reducible exact hXa) | (with_reducible exact hXb) | (with_reducible exact hXc) | (with_reducible exact hXd) | go_keep)
              ((refine step_run_append rfl (.tmp 22) (.tmp 26) rfl R1 (by simp [Act.eval]) (by simp [Act.eval]) ?_; try simp only [Act.put, List.setIfInBounds_toArray, List.set_cons_zero, List.set_cons_succ]))
            all_goals
              subst hQ
              go_wp2
              go_roundw
              case rel => exact ⟨(px, py, pi) :: A2, B2, O ++ [(qx, qy, qi)], _, _, a2, xa, xb - 1, c2, rfl, rfl, by rw [HE9.out], by simpa using hxa, by omega, HN, RA, TB, HM6, by simpa using HL7.out, B6⟩
              case measure => simp [lenOf]

end Go.Proofs.YthpgkldpbbajfaaGreat

/- stair.Beats: is one of a stair over a point? -/
namespace Go.Proofs.YthpgkldpbbajfaaGreat
open Go.RowKit Go.Maps

set_option maxRecDepth 100000 in
set_option maxHeartbeats 1000000 in
theorem look_calls (p : Pt) (x : Int) (L c : Nat) (hc : c ≤ 1000000) (W : World) (h : Boxed W L 3 (.int .i64 c)) :
    Calls Tryz.prog 105 #[vPt p.1 p.2.1 p.2.2, .int .i64 x, .pointer (some ⟨L, 0, none⟩)] W fun e w' => e = .returned (.int .i64 (if p.1 < x then -1 else 1)) ∧ Boxed w' L 3 (.int .i64 ((c + 1 : Nat) : Int)) ∧ Below L W w' := by
  have hL := h.lt
  have hcell := h.cell
  have hfr := h.frozen
  obtain ⟨px, py, pi⟩ := p
  have h2 := (h.set (.int .i64 ((c + 1 : Nat) : Int))).alloc (.cells #[.int .i64 px, .int .i64 py, .int .u32 pi] 34)
  have hb : Below L W ((W.setCell ⟨L, 0, none⟩ (.int .i64 ((c + 1 : Nat) : Int))).alloc (.cells #[.int .i64 px, .int .i64 py, .int .u32 pi] 34)) := ((Below.refl _ W).setCell (p := ⟨L, 0, none⟩) (Nat.le_refl _) _).alloc (by simp; omega) _
  have hlW : L ≠ W.heap.size := by omega
  rw [show ((c + 1 : Nat) : Int) = (c : Int) + 1 by omega] at h2 hb ⊢
  by_cases hx : px < x
  · have d1 : decide (px < x) = true := by simp [hx]
    simp only [if_pos hx]
    go_enter Tryz.func105, Tryz.ntmps105
    go_wp2
    go_ret
    exact ⟨rfl, h2, hb⟩
  · have d1 : decide (px < x) = false := by simp; omega
    simp only [if_neg hx]
    go_enter Tryz.func105, Tryz.ntmps105
    go_wp2
    go_ret
    exact ⟨rfl, h2, hb⟩

theorem enters_look : ∀ args w, (callFunc 105 args).run Tryz.prog w = .ok (.enter 105 args) w := enters_of Tryz.func105 (by kernel_rfl) rfl

set_option maxRecDepth 100000 in
set_option maxHeartbeats 2000000 in
theorem bsf_calls (a : Option Addr) (l : List Pt) (n cp : Nat) (x : Int) (L : Nat) (W0 W : World) (hn : l.length = n) (hl : n ≤ 1000000) (hr : RdK ePt 3 W0 a l) (hL : W0.heap.size ≤ L) (hW : Below L W0 W) (hs : l.Pairwise fun p q => p.1 ≤ q.1) (hb : Boxed W L 3 (.int .i64 0)) :
    Calls Tryz.prog 104 #[.slice a n cp, .int .i64 x, .func (.func 105) #[] #[.pointer (some ⟨L, 0, none⟩)]] W fun e w' =>
      ∃ k c : Nat, e = .returned (.tuple #[.int .i64 k, .bool false]) ∧ k ≤ n ∧ (∀ t (_ : t < l.length), t < k → l[t].1 < x) ∧ (∀ t (_ : t < l.length), k ≤ t → x ≤ l[t].1) ∧ c ≤ Lib.bitLen n + 1 ∧ Boxed w' L 3 (.int .i64 c) ∧ Below L W w' := by
  subst hn
  have HR := Lib.hid hr
  have HS := Lib.hid hs
  have HW := Lib.hid hW
  have hbl := bitLen_mono (show l.length ≤ 1000000 from hl) (by decide)
  have hbl2 : Lib.bitLen 1000000 = 20 := by decide
  rw [hbl2] at hbl
  have HC := Lib.hid look_calls
  clear hr hs hW
  go_enter Tryz.func104, Tryz.ntmps104
  go_wp2
  go_loopw [9, 10] (fun iv jv wr => ∃ i j c : Nat, iv = .int .i64 i ∧ jv = .int .i64 j ∧ i ≤ j ∧ j ≤ l.length ∧ Hid (c + Lib.bitLen (j - i) ≤ Lib.bitLen l.length) ∧ Hid (∀ t (_ : t < l.length), t < i → l[t].1 < x) ∧ Hid (∀ t (_ : t < l.length), j ≤ t → x ≤ l[t].1) ∧ Hid (Boxed wr L 3 (.int .i64 c)) ∧ Below L W wr)
    (fun iv jv _ => (intOf jv).toNat - (intOf iv).toNat)
  case atStart => exact ⟨0, l.length, 0, rfl, rfl, Nat.zero_le _, Nat.le_refl _, (by show _ ≤ _; simp), fun t _ h => absurd h (Nat.not_lt_zero _), fun t h1 h2 => absurd h1 (by omega), hb, Below.refl _ _⟩
  case round =>
    obtain ⟨i, j, c, rfl, rfl, hij, hj, HCN, H1, H2, HB, hbw⟩ := hrel
    by_cases hlt : i < j
    · have hmj : (i + j) / 2 < l.length := by omega
      obtain ⟨b, off, ea, hbb, hcs⟩ := (HR.out.below (B := L) (HW.out.trans hbw) hL).get (by omega)
      have x0 := hcs ((i + j) / 2) hmj 0 (by omega)
      have x1 := hcs ((i + j) / 2) hmj 1 (by omega)
      have x2 := hcs ((i + j) / 2) hmj 2 (by omega)
      simp only [ePt, List.getElem?_cons_zero, List.getElem?_cons_succ, Nat.add_zero] at x0 x1 x2
      have hcl : c ≤ 1000000 := by have := HCN.out; omega
      have HCL := Lib.hid (HC.out l[(i + j) / 2] x L c hcl wr HB.out)
      have HLO : Hid (l[(i + j) / 2].1 < x → ∀ t (_ : t < l.length), t < (i + j) / 2 + 1 → l[t].1 < x) := fun h t ht h2 => by
        rcases Nat.lt_succ_iff_lt_or_eq.1 h2 with h3 | rfl
        · have := List.pairwise_iff_getElem.1 HS.out t ((i + j) / 2) ht hmj h3
          omega
        · exact h
      have HHI : Hid (¬ l[(i + j) / 2].1 < x → ∀ t (_ : t < l.length), (i + j) / 2 ≤ t → x ≤ l[t].1) := fun h t ht h2 => by
        rcases Nat.lt_or_eq_of_le h2 with h3 | rfl
        · have := List.pairwise_iff_getElem.1 HS.out ((i + j) / 2) t hmj ht h3
          omega
        · omega
      have EA := Lib.hid ea
      clear hcs ea HB
      generalize l[(i + j) / 2] = p at *
      obtain ⟨px, py, pi⟩ := p
      simp only at x0 x1 x2
      obtain rfl := EA.out
      clear EA
      have hcn := HCN.out
      by_cases hx : px < x
      · have HLO2 := Lib.hid (HLO.out hx)
        have HCL2 := HCL
        simp only [if_pos hx] at HCL2
        have HCN2 : Hid (c + 1 + Lib.bitLen (j - ((i + j) / 2 + 1)) ≤ Lib.bitLen l.length) := by
          have := bitLen_less (d := j - i) (e := j - ((i + j) / 2 + 1)) (by omega) (by omega) (by omega)
          show _ ≤ _; omega
        clear HCL HLO HHI HCN hcn hx
        go_wp2_with (go_at_call 105; refine HCL2.out.mono ?_; rintro e w' ⟨rfl, hB', hb'⟩)
        go_roundw
        case rel => exact ⟨(i + j) / 2 + 1, j, c + 1, by rw [show ((i : Int) + (j : Int)) / 2 + 1 = (((i + j) / 2 + 1 : Nat) : Int) by omega], rfl, by omega, hj, HCN2, HLO2, H2, hB', hbw.trans hb'⟩
        case measure => simp [intOf]; omega
      · have HHI2 := Lib.hid (HHI.out hx)
        have HCL2 := HCL
        simp only [if_neg hx] at HCL2
        have HCN2 : Hid (c + 1 + Lib.bitLen ((i + j) / 2 - i) ≤ Lib.bitLen l.length) := by
          have := bitLen_less (d := j - i) (e := (i + j) / 2 - i) (by omega) (by omega) (by omega)
          show _ ≤ _; omega
        clear HCL HLO HHI HCN hcn hx
        go_wp2_with (go_at_call 105; refine HCL2.out.mono ?_; rintro e w' ⟨rfl, hB', hb'⟩)
        go_roundw
        case rel => exact ⟨i, (i + j) / 2, c + 1, rfl, by rw [show ((i : Int) + (j : Int)) / 2 = (((i + j) / 2 : Nat) : Int) by omega], by omega, by omega, HCN2, H1, HHI2, hB', hbw.trans hb'⟩
        case measure => simp [intOf]; omega
    · obtain rfl : i = j := by omega
      have hcn := HCN.out
      rw [Nat.sub_self, bitLen_zero, Nat.add_zero] at hcn
      by_cases hil : i < l.length
      · obtain ⟨b, off, ea, hbb, hcs⟩ := (HR.out.below (B := L) (HW.out.trans hbw) hL).get (by omega)
        have x0 := hcs i hil 0 (by omega)
        have x1 := hcs i hil 1 (by omega)
        have x2 := hcs i hil 2 (by omega)
        simp only [ePt, List.getElem?_cons_zero, List.getElem?_cons_succ, Nat.add_zero] at x0 x1 x2
        have HCL := Lib.hid (HC.out l[i] x L c (by omega) wr HB.out)
        have hge := H2.out i hil (Nat.le_refl _)
        rw [show (if l[i].1 < x then (-1 : Int) else 1) = 1 by rw [if_neg (by omega)]] at HCL
        have EA := Lib.hid ea
        clear hcs ea HB hge
        generalize l[i] = p at *
        obtain ⟨px, py, pi⟩ := p
        simp only at x0 x1 x2
        obtain rfl := EA.out
        clear EA
        have HCN3 := Lib.hid hcn
        clear hcn HCN
        go_wp2_with (go_at_call 105; refine HCL.out.mono ?_; rintro e w' ⟨rfl, hB', hb'⟩)
        go_ret2
        exact ⟨i, c + 1, rfl, by omega, H1.out, H2.out, by have := HCN3.out; omega, hB', hbw.trans hb'⟩
      · obtain rfl : i = l.length := by omega
        have HCN3 := Lib.hid hcn
        clear hcn HCN
        go_wp2
        go_ret2
        exact ⟨_, c, rfl, Nat.le_refl _, H1.out, H2.out, by have := HCN3.out; omega, HB.out, hbw⟩

set_option maxRecDepth 100000 in
set_option maxHeartbeats 2000000 in
theorem beats_no (a : Option Addr) (l : List Pt) (n c : Nat) (p : Pt) (w : World) (hn : l.length = n) (h : RdK ePt 3 w a l) (hl : n ≤ 1000000) (hw : wfI l) (hu : rightF l = false) :
    Calls Tryz.prog 52 #[.slice a n c, vPt p.1 p.2.1 p.2.2] w fun e w' => e = .returned (.tuple #[.bool false, .int .i64 0, .int .i64 150]) ∧ Below w.heap.size w w' := by
  obtain ⟨px, py, pi⟩ := p
  have C1 := Lib.hid (fun W (hb : Below w.heap.size w W) => right_calls a l n c W hn (h.below hb) hl hw)
  rw [hu] at C1
  clear h hw hu
  go_enter Tryz.func52, Tryz.ntmps52
  go_wp2_with fail
  have hb0 := (Below.refl w.heap.size w).alloc (Nat.le_refl _) (.cells #[.int .i64 px, .int .i64 py, .int .u32 pi] 34)
  refine (C1.out _ hb0).mono ?_
  rintro e w1 ⟨rfl, hb1⟩
  go_wp2
  go_ret3
  exact ⟨rfl, hb0.trans (hb1.mono (by simp))⟩

theorem over_below (p q : Pt) (W : World) : Calls Tryz.prog 106 #[vPt p.1 p.2.1 p.2.2, vPt q.1 q.2.1 q.2.2] W fun e w' => e = .returned (.bool (ovr p q)) ∧ Below W.heap.size W w' :=
  (iOver p q W).mono fun _ _ h => ⟨h.1, h.2.below (Nat.le_refl _)⟩

set_option maxRecDepth 100000 in
set_option maxHeartbeats 2000000 in
theorem beats_yes (a : Option Addr) (l : List Pt) (n c : Nat) (p : Pt) (w : World) (hn : l.length = n) (h : RdK ePt 3 w a l) (hl : n ≤ 1000000) (hw : wfI l) (hu : rightF l = true) :
    Calls Tryz.prog 52 #[.slice a n c, vPt p.1 p.2.1 p.2.2] w fun e w' => (∃ k : Nat, e = .returned (.tuple #[.bool (btn l p), .int .i64 k, .int .i64 0]) ∧ k ≤ Lib.bitLen n + 1) ∧ Below w.heap.size w w' := by
  have C1 := Lib.hid (fun W (hb : Below w.heap.size w W) => right_calls a l n c W hn (h.below hb) hl hw)
  rw [hu] at C1
  have HSK := Lib.hid (right_sky hu)
  have hsx : l.Pairwise fun p q => p.1 ≤ q.1 := (right_sorted hu).imp fun {p q} hpq => by unfold ltX at hpq; omega
  have HSX := Lib.hid hsx
  have HB := Lib.hid (fun k hk h1 h2 => stair_beats HSK.out p k hk h1 h2)
  have HR := Lib.hid h
  have HO := Lib.hid (fun q W => over_below q p W)
  clear h hw hu hsx
  generalize hbt : btn l p = bt at *
  clear hbt
  obtain ⟨px, py, pi⟩ := p
  go_enter Tryz.func52, Tryz.ntmps52
  go_wp2_with fail
  have hb0 := (Below.refl w.heap.size w).alloc (Nat.le_refl _) (.cells #[.int .i64 px, .int .i64 py, .int .u32 pi] 34)
  refine (C1.out _ hb0).mono ?_
  rintro e w1 ⟨rfl, hb1⟩
  have p0 : w1.cell? ⟨w.heap.size, 0, none⟩ = some (.int .i64 px) := (hb1.cell (p := ⟨w.heap.size, 0, none⟩) (by simp)).trans (by rw [World.cell?_alloc_at _ _ _ _ rfl]; rfl)
  have p1 : w1.cell? ⟨w.heap.size, 1, none⟩ = some (.int .i64 py) := (hb1.cell (p := ⟨w.heap.size, 1, none⟩) (by simp)).trans (by rw [World.cell?_alloc_at _ _ _ _ rfl]; rfl)
  have p2 : w1.cell? ⟨w.heap.size, 2, none⟩ = some (.int .u32 pi) := (hb1.cell (p := ⟨w.heap.size, 2, none⟩) (by simp)).trans (by rw [World.cell?_alloc_at _ _ _ _ rfl]; rfl)
  have hlt1 : w.heap.size < w1.heap.size := by have := hb1.size; simp at this; omega
  have B1 := hb0.trans (hb1.mono (by simp))
  clear hb0 hb1 C1
  go_wp2_with fail
  refine (bsf_calls a l n c px w1.heap.size w1 _ hn hl (HR.out.below B1) (Nat.le_refl _) ((Below.refl _ _).alloc (Nat.le_refl _) _) HSX.out (Boxed.new w1 3 (.int .i64 0))).mono ?_
  rintro e w2 ⟨k, ck, rfl, hk, g1, g2, hck, hBx, hb2⟩
  have hbt := HB.out k (by omega) g1 g2
  have hbl := bitLen_mono (show n ≤ 1000000 from hl) (by decide)
  have hbl2 : Lib.bitLen 1000000 = 20 := by decide
  have hc7 := hBx.cell
  have B2 : Below w.heap.size w w2 := (B1.alloc B1.size _).trans (hb2.mono B1.size)
  have hb12 : Below w1.heap.size w1 w2 := ((Below.refl _ w1).alloc (Nat.le_refl _) _).trans hb2
  have q0 := (hb12.cell (p := ⟨w.heap.size, 0, none⟩) hlt1).trans p0
  have q1 := (hb12.cell (p := ⟨w.heap.size, 1, none⟩) hlt1).trans p1
  have q2 := (hb12.cell (p := ⟨w.heap.size, 2, none⟩) hlt1).trans p2
  have HG := Lib.hid hck
  clear g1 g2 HB HSK HSX p0 p1 p2 hb2 hb12 hbl2 hbl hBx hck
  by_cases hkn : k < l.length
  · rw [dif_pos hkn] at hbt
    obtain ⟨b, off, ea, hbb, hcs⟩ := (HR.out.below B2).get (by omega)
    have x0 := hcs k hkn 0 (by omega)
    have x1 := hcs k hkn 1 (by omega)
    have x2 := hcs k hkn 2 (by omega)
    simp only [ePt, List.getElem?_cons_zero, List.getElem?_cons_succ, Nat.add_zero] at x0 x1 x2
    have HO2 := Lib.hid (HO.out l[k])
    have EA := Lib.hid ea
    have d1 : ((k : Int) == (n : Int)) = false := by simp; omega
    have hk2 : (k : Int) < (n : Int) := by omega
    have hk3 : (0 : Int) ≤ (k : Int) := by omega
    clear hcs ea HO HR
    generalize l[k] = q at *
    obtain ⟨qx, qy, qi⟩ := q
    simp only at x0 x1 x2
    have HBT := Lib.hid hbt
    clear hbt
    obtain rfl := EA.out
    clear EA
    have kx0 := cell_belowW x0
    have kx1 := cell_belowW x1
    have kx2 := cell_belowW x2
    have ky0 := cell_belowW q0
    have ky1 := cell_belowW q1
    have ky2 := cell_belowW q2
    have kc7 := cell_belowW hc7
    go_wp2
    refine wp_region_below (by kernel_rfl) (by kernel_rfl) ?_
    repeat (quiet_step ((go_at_call 106; exact calls_below (HO2.out _))))
    refine wpQuiet_nil ?_
    intro w5 hw'
    have hb6 : Below w2.heap.size w2 w5 := by obtain ⟨p, rfl⟩ := hw'; exact p.h
    clear hw'
    go_wp2
    go_ret3
    exact ⟨⟨ck, by rw [HBT.out]; rfl, HG.out⟩, B2.trans (hb6.mono B2.size)⟩
  · rw [dif_neg hkn] at hbt
    subst hbt
    have d1 : ((k : Int) == (n : Int)) = true := by simp; omega
    go_wp2
    go_region
    all_goals
      go_wp2
      go_ret3
      exact ⟨⟨ck, rfl, HG.out⟩, B2.drew⟩

end Go.Proofs.YthpgkldpbbajfaaGreat

/- Maps from points to integers, counted in; the statement m[p]++. No function of the program is walked here. -/
namespace Go.Proofs.YthpgkldpbbajfaaGreat
open Go.RowKit Go.Maps Go.ChangeShapes Go.WideShapes Go.WideElems
open Go.WideMaps (KeyLaw)
open Go.ChangeMaps (setBlock modify_eq_set)
set_option linter.unusedSimpArgs false
set_option linter.unusedVariables false

theorem ptLaid : laidOutB Tryz.prog = true := by kernel_rfl
theorem ptRow : (34 : TypeId) < Tryz.prog.types.size := of_decide_eq_true (by kernel_rfl)
theorem ptWide : (match Tryz.prog.underlying 34 with | some (.array _ _) | some (.struct _) => true | _ => false) = true := by rw [Tryz.underlying34]
set_option maxRecDepth 100000 in
theorem ptLaw : KeyLaw Tryz.prog 34 := deep_law_laid ptLaid (m := 2) (by omega) ptRow (by kernel_rfl) ptWide
set_option maxRecDepth 100000 in
theorem ptDeep : Tryz.prog.keyTypeAt (Tryz.prog.types.size + 1) 34 = true := by kernel_rfl
theorem ptCells : Tryz.prog.cellsOf 34 = 3 := by kernel_rfl

def wfP (p : Pt) : Prop := (Lit.int .i64 p.1).wf = true ∧ (Lit.int .i64 p.2.1).wf = true ∧ (Lit.int .u32 p.2.2).wf = true

/-- a point, as a map's key -/
def kp (p : Pt) : Lit := (DataW.agg [.lit (.int .i64 p.1), .lit (.int .i64 p.2.1), .lit (.int .u32 p.2.2)] : DataW Unit).asKey

theorem int_trod {H : Type} {enc : TypeId × Value → H} {P : Program} {w : World} {base : Nat} {spare : Nat → Bool} {held : Bool} {t : TypeId} {q : IntKind} {n : Int} (ht : P.underlying t = some (.int q)) (hw : (Lit.int q n).wf = true) :
    ∃ m, DataW.trod enc P w base spare held m t [.int q n] = some (.lit (.int q n), []) := ⟨1, by simp [DataW.trod, ht, hw]⟩

set_option maxRecDepth 100000 in
theorem kp_key {p : Pt} (h : wfP p) : keyOf Tryz.prog 34 (vPt p.1 p.2.1 p.2.2) = some (kp p) := by
  have t0 := Go.Joins.shut_agg3 (enc := fun _ => ()) (w := default) (base := 0) (spare := fun _ => true) (held := false) Tryz.underlying34 (by kernel_rfl) ptCells
    (int_trod Tryz.underlying2 h.1) (int_trod Tryz.underlying2 h.2.1) (int_trod Tryz.underlying32 h.2.2)
  exact (keyOf_asKey ptDeep ptWide (by simp [Value.formed, Tryz.underlying34, ptCells]) t0).1

theorem kp_inj {p q : Pt} (hp : wfP p) (hq : wfP q) (h : kp p = kp q) : p = q := by
  have h2 := kp_key hq
  rw [← h] at h2
  have := ptLaw.inj (kp_key hp) h2
  obtain ⟨px, py, pi⟩ := p
  obtain ⟨qx, qy, qi⟩ := q
  simp [vPt] at this
  obtain ⟨rfl, rfl, rfl⟩ := this
  rfl

theorem kp_lit {p : Pt} (h : wfP p) : WideAt.IsKeyLit (kp p) := (Keyed.of_law ptLaw).key (kp_key h)

/-- a map's datum: how often each point is there -/
def IsC {H : Type} (D : DataW H) (L : List Pt) : Prop := Tidy D ∧ ∀ p, wfP p → ∀ z, D.atKey (kp p) z = if p ∈ L then .lit (.int .i64 (L.count p : Nat)) else z

theorem IsC.empty {H : Type} : IsC (H := H) (.map []) [] := ⟨tidy_empty, fun p _ z => by simp; rfl⟩

theorem IsC.at0 {H : Type} {D : DataW H} {L : List Pt} (h : IsC D L) {p : Pt} (hp : wfP p) : D.atKey (kp p) (.lit (.int .i64 0)) = .lit (.int .i64 (L.count p : Nat)) := by
  rw [h.2 p hp]
  by_cases hin : p ∈ L
  · rw [if_pos hin]
  · rw [if_neg hin, List.count_eq_zero.2 hin]
    rfl

theorem IsC.put {H : Type} {D : DataW H} {L : List Pt} (h : IsC D L) {x : Pt} (hx : wfP x) : IsC (D.put (kp x) (.lit (.int .i64 ((L.count x : Nat) + 1 : Int)))) (L ++ [x]) := by
  refine ⟨h.1.put (kp_lit hx) _, fun p hp z => ?_⟩
  by_cases e : p = x
  · subst e
    rw [atKey_put_same h.1.isMap (kp_lit hp), if_pos (by simp), List.count_append]
    simp
  · have hne : kp p ≠ kp x := fun h9 => e (kp_inj hp hx h9)
    rw [atKey_put_other hne, h.2 p hp z]
    have h1 : (p ∈ L ++ [x]) ↔ p ∈ L := by simp [e]
    have h2 : (L ++ [x]).count p = L.count p := by rw [List.count_append, List.count_eq_zero.2 (by simp [e] : p ∉ [x])]; rfl
    simp only [h1, h2]

theorem setBlock_same {w : World} {b : Nat} {o : Obj} (h : w.heap[b]? = some o) : setBlock w b o = w := by
  obtain ⟨hlt, he⟩ := Array.getElem?_eq_some_iff.1 h
  unfold setBlock
  have : w.heap.setIfInBounds b o = w.heap := by
    apply Array.ext_getElem?
    intro i
    rw [Array.getElem?_setIfInBounds]
    by_cases e : b = i
    · subst e; simp [hlt, he]
    · simp [e]
  rw [this]

theorem setBlock_twice (w : World) (b : Nat) (o o' : Obj) : setBlock (setBlock w b o) b o' = setBlock w b o' := by
  unfold setBlock
  simp only [World.mk.injEq, and_true, true_and]
  apply Array.ext_getElem?
  intro i
  simp only [Array.getElem?_setIfInBounds]
  by_cases e : b = i <;> simp [e]

/-- the runs of m[p]++, in whatever order its look-up and its entry come -/
theorem bump_runs {P : Program} {t k e : TypeId} (K : KeyLaw P k) (ht : P.underlying t = some (.map k e)) (he : P.underlying e = some (.int .i64)) (hz : ∀ u : World, (zeroValue e).run P u = .ok (.int .i64 0) u)
    {W : World} {b n : Nat} {D : DataW Unit} (hown : W.ownsMap P k (plainElem P e) b n D) (hn : n < maxLen) {key : Value} {kl : Lit} (hkey : keyOf P k key = some kl) {c : Int} (hat : D.atKey kl (.lit (.int .i64 0)) = .lit (.int .i64 c)) (hc : (Lit.int .i64 (c + 1)).wf = true) :
    ∃ (v0 : Value) (st : Nat) (W1 W2 : World), (Instr.lookup t (.map (some b)) key false).run P W = .ok (.int .i64 c) W ∧ (Instr.mapEntry t (.map (some b)) key).run P W = .ok (.tuple #[v0, .int .i64 st]) W1 ∧
      (Instr.lookup t (.map (some b)) key false).run P W1 = .ok (.int .i64 c) W1 ∧ (Instr.entryStore t (.map (some b)) (.int .i64 st) (.int .i64 (c + 1))).run P W1 = .ok () W2 ∧
      W2.ownsMap P k (plainElem P e) b (n + 1) (D.put kl (.lit (.int .i64 (c + 1)))) ∧ W.grownBy W2 (some b) ∧ W.grownBy W1 (some b) := by
  have hup := hown.update (Keyed.of_law K) ht hn hkey (val := .int .i64 (c + 1)) (plainElem_int he hc)
  obtain ⟨c9, hl, hc9, _⟩ := hown.lookup_int (Keyed.of_law K) ht he (hz W) hkey
  have e9 : c9 = c := by rw [hat] at hc9; simpa using hc9.symm
  subst e9
  obtain ⟨w', hrun, hown', hg⟩ := hup
  have hown0 := hown
  obtain ⟨es, clock, hb, F, hs, rfl⟩ := hown
  obtain ⟨v0, st, es1, clock1, hE, -, hS⟩ := entry_then_store K ht hz hb F hkey
  have hlt : b < W.heap.size := (Array.getElem?_eq_some_iff.1 hb).1
  have hb1 : (setBlock W b (.map es1 clock1)).heap[b]? = some (.map es1 clock1) := by simp [setBlock, hlt]
  obtain ⟨es', clock', h1, h2⟩ := hS (setBlock W b (.map es1 clock1)) (.int .i64 (c9 + 1)) hb1
  rw [setBlock_twice] at h1
  have hw' : w' = setBlock W b (.map es' clock') := by
    rw [hrun] at h2
    injection h2
  refine ⟨v0, st, setBlock W b (.map es1 clock1), w', hl, hE, ?_, by rw [hw']; exact h1, hown', hg, ⟨rfl, rfl, rfl, by simp [setBlock], fun i _ hi => by
    have : b ≠ i := fun e => hi (by rw [e])
    simp [setBlock, Array.getElem?_setIfInBounds, this]⟩⟩
  rcases K.find W hkey es.toList F.keys with ⟨f1, f2⟩ | ⟨j, e0, f1, f2, f3⟩
  · have hE2 : (Instr.mapEntry t (.map (some b)) key).run P W = .ok (.tuple #[.int .i64 0, goInt clock]) (setBlock W b (.map (es.push ⟨key, .int .i64 0, clock⟩) (clock + 1))) := by
      simp [Instr.mapEntry, run_underlying ht, MapKept.run_getObj_map hb, K.check W false hkey, f1, hz, MapKept.run_setObj_map _ hb, Result.andThen, setBlock]
    have hU2 : (Instr.mapUpdate t (.map (some b)) key (.int .i64 0)).run P W = .ok () (setBlock W b (.map (es.push ⟨key, .int .i64 0, clock⟩) (clock + 1))) := by
      simp [Instr.mapUpdate, run_underlying ht, MapKept.run_getObj_map hb, K.check W false hkey, f1, MapKept.run_setObj_map _ hb, Result.andThen, setBlock]
    have hW1 : setBlock W b (.map es1 clock1) = setBlock W b (.map (es.push ⟨key, .int .i64 0, clock⟩) (clock + 1)) := by
      rw [hE] at hE2
      injection hE2
    obtain ⟨w9, hr9, ho9, _⟩ := hown0.update (Keyed.of_law K) ht hn hkey (val := .int .i64 0) (plainElem_int he (by decide))
    have hw9 : w9 = setBlock W b (.map es1 clock1) := by
      rw [hU2, ← hW1] at hr9
      injection hr9 with _ h
      exact h.symm
    subst hw9
    obtain ⟨c8, hl8, hc8, _⟩ := ho9.lookup_int (Keyed.of_law K) ht he (hz _) hkey
    have e8 : c8 = 0 := by
      rw [atKey_put_same ⟨_, rfl⟩ ((Keyed.of_law K).key hkey)] at hc8
      simpa using hc8.symm
    have e0 : c9 = 0 := by
      rcases Maps.fit_look false (Keyed.of_law K) ht (hz W) hb F hkey with ⟨hrun, _, _⟩ | ⟨e0, y, hm, hk, _⟩
      · rw [hrun] at hl
        injection hl with h _
        injection h with _ h
        exact h.symm
      · exact absurd hk (f2 _ hm)
    rw [hl8, e8, e0]
  · have hj : es[j]? = some e0 := by simpa using f2
    have hsame : es.modify j (fun e => { e with key := key }) = es := by
      apply Array.ext'
      rw [Array.toList_modify, modify_eq_set _ _ _ _ f2]
      have : ({ e0 with key := key } : MapEntry) = e0 := by rw [← f3]
      rw [this]
      exact set_self _ _ _ f2
    have hE2 : (Instr.mapEntry t (.map (some b)) key).run P W = .ok (.tuple #[e0.val, goInt e0.born]) (setBlock W b (.map es clock)) := by
      simp [Instr.mapEntry, run_underlying ht, MapKept.run_getObj_map hb, K.check W false hkey, f1, hj, f3, K.stays W hkey, hsame, MapKept.run_setObj_map _ hb, Result.andThen, setBlock]
    have hW1 : setBlock W b (.map es1 clock1) = W := by
      rw [hE] at hE2
      injection hE2 with _ h
      rw [h, setBlock_same hb]
    rw [hW1]
    exact hl

end Go.Proofs.YthpgkldpbbajfaaGreat

/- gridironlaw15.names, gridironlaw15.unlike. -/
namespace Go.Proofs.YthpgkldpbbajfaaGreat
open Go.RowKit Go.Maps

theorem takeP_more {α : Type} (l l' : List α) (k : Nat) (h : l.take k = l'.take k) (h1 : k < l.length) (h2 : k < l'.length) (he : l[k] = l'[k]) : l.take (k + 1) = l'.take (k + 1) := by
  rw [List.take_succ_eq_append_getElem h1, List.take_succ_eq_append_getElem h2, h, he]


set_option maxRecDepth 100000 in
set_option maxHeartbeats 2000000 in
theorem names_calls (a a' : Option Addr) (l : List Pt) (l' : List Int) (n n' c c' : Nat) (w : World) (hn : l.length = n) (hn' : l'.length = n') (h : RdK ePt 3 w a l) (h' : Rd (Value.int .u32) w a' l') (hl : n ≤ 1000000) (hl' : n' ≤ 1000000) :
    Calls Tryz.prog 53 #[.slice a n c, .slice a' n' c'] w fun e w' => e = .returned (.bool (decide (ids l = l'))) ∧ Below w.heap.size w w' := by
  subst hn hn'
  have HR := Lib.hid h
  have HR' := Lib.hid h'
  clear h h'
  generalize hr : decide (ids l = l') = r
  have HRR := Lib.hid hr
  clear hr
  by_cases hln : l.length = l'.length
  · have dl : ((l.length : Int) != (l'.length : Int)) = false := by simp [hln]
    have HLN := Lib.hid hln
    go_enter Tryz.func53, Tryz.ntmps53
    go_wp2
    go_loopw [13] (fun iv wr => ∃ k : Nat, iv = .int .i64 k ∧ k ≤ l.length ∧ Below w.heap.size w wr ∧ Hid ((ids l).take k = l'.take k)) (fun iv _ => l.length - (intOf iv).toNat)
    case atStart => exact ⟨0, rfl, Nat.zero_le _, Below.refl _ _, rfl⟩
    case round =>
      obtain ⟨k, rfl, hk, hb, INV⟩ := hrel
      by_cases hlt : k < l.length
      · have hlt' : k < l'.length := by omega
        obtain ⟨b, off, ea, hbl, hcs⟩ := (HR.out.below hb).get (by omega)
        obtain ⟨b', off', ea', hbl', hcs'⟩ := (HR'.out.below hb).get (by omega)
        have x2 := hcs k hlt 2 (by omega)
        have y2 := hcs' k hlt'
        simp only [ePt, List.getElem?_cons_zero, List.getElem?_cons_succ] at x2
        have hkl : (k : Int) < (l.length : Int) := by omega
        have hkl' : (k : Int) < (l'.length : Int) := by omega
        have hki : k < (ids l).length := by simpa [ids] using hlt
        have hie : (ids l)[k] = l[k].2.2 := by simp [ids]
        have HNE : l[k].2.2 ≠ l'[k] → r = false := fun hne => by
          rw [← HRR.out]
          simp only [decide_eq_false_iff_not]
          intro e
          apply hne
          rw [← hie]
          simp [e]
        have HYE : l[k].2.2 = l'[k] → Hid ((ids l).take (k + 1) = l'.take (k + 1)) := fun he => takeP_more (ids l) l' k INV.out hki hlt' (by rw [hie]; exact he)
        have EA := Lib.hid ea
        have EA' := Lib.hid ea'
        clear hcs hcs' ea ea' hie hki
        generalize l[k].2.2 = p at *
        generalize l'[k] = q at *
        obtain rfl := EA.out
        obtain rfl := EA'.out
        clear EA EA'
        by_cases h0 : p = q
        · have d0 : (p != q) = false := by simp [h0]
          have I2 := HYE h0
          clear h0 HNE HYE INV hln
          go_wp2
          go_region
          all_goals
            go_wp2
            go_roundw
            case rel => exact ⟨k + 1, by go_num, by omega, hb.drew, I2⟩
            case measure => simp [intOf]; omega
        · have d0 : (p != q) = true := by simp [h0]
          have hr := HNE h0
          subst hr
          clear h0 HNE HYE HRR hln INV
          go_wp2
          go_region
          all_goals
            go_wp2
            go_ret
            exact ⟨rfl, hb.drew⟩
      · have hr : r = true := by
          rw [← HRR.out]
          have hk2 : k = l.length := by omega
          have := INV.out
          rw [hk2, List.take_of_length_le (by simp [ids]), HLN.out, List.take_length] at this
          simpa using this
        subst hr
        clear HRR
        go_wp2
        go_ret
        exact ⟨rfl, hb⟩
  · have dl : ((l.length : Int) != (l'.length : Int)) = true := by simp; omega
    have hr : r = false := by
      rw [← HRR.out]
      simp only [decide_eq_false_iff_not]
      intro e
      exact hln (by rw [← e]; simp [ids])
    subst hr
    clear HRR
    go_enter Tryz.func53, Tryz.ntmps53
    go_wp2
    go_ret
    exact ⟨rfl, Below.refl _ _⟩

set_option maxRecDepth 100000 in
set_option maxHeartbeats 4000000 in
theorem unlike15 (a : Option Addr) (l : List Pt) (n c : Nat) (w : World) (hn : l.length = n) (h : RdK ePt 3 w a l) (hl : n ≤ 1000000) :
    Calls Tryz.prog 15 #[.slice a n c] w fun e w' => e = .returned (.bool (unl l)) ∧ Below w.heap.size w w' := by
  subst hn
  have HR := Lib.hid h
  clear h
  generalize hr : unl l = r
  have HRR := Lib.hid hr
  clear hr
  go_enter Tryz.func15, Tryz.ntmps15
  go_wp2
  go_loopw [7] (fun iv wr => ∃ i : Nat, iv = .int .i64 i ∧ i ≤ l.length ∧ Below w.heap.size w wr ∧ Hid (∀ j (_ : j < l.length) k (_ : k < j), j < i → l[j].2.2 ≠ l[k].2.2)) (fun iv _ => l.length - (intOf iv).toNat)
  case atStart => exact ⟨0, rfl, Nat.zero_le _, Below.refl _ _, fun j _ k _ h => absurd h (Nat.not_lt_zero _)⟩
  case round =>
    obtain ⟨i, rfl, hi, hb, INV⟩ := hrel
    by_cases hlt : i < l.length
    · obtain ⟨wo, ewo⟩ : ∃ wo : World, wo = wr := ⟨_, rfl⟩
      subst ewo
      go_wp2
      go_loopw [11] (fun kv wr => ∃ k : Nat, kv = .int .i64 k ∧ k ≤ i ∧ Below w.heap.size w wr ∧ Hid (∀ j (_ : j < l.length), j < k → l[i].2.2 ≠ l[j].2.2)) (fun kv _ => i - (intOf kv).toNat)
      case atStart => exact ⟨0, rfl, Nat.zero_le _, hb, fun j _ h => absurd h (Nat.not_lt_zero _)⟩
      case round =>
        obtain ⟨k, rfl, hk, hb2, INV2⟩ := hrel
        by_cases hki : k < i
        · obtain ⟨b, off, ea, hbl, hcs⟩ := (HR.out.below hb2).get (by omega)
          have x2 := hcs i hlt 2 (by omega)
          have y2 := hcs k (by omega) 2 (by omega)
          simp only [ePt, List.getElem?_cons_zero, List.getElem?_cons_succ] at x2 y2
          have hkl : (k : Int) < (l.length : Int) := by omega
          by_cases he : l[i].2.2 = l[k].2.2
          · have hu : r = false := HRR.out ▸ unl_no_of hlt hki he
            have d1 : (l[i].2.2 == l[k].2.2) = true := by simp [he]
            subst hu
            have EA := Lib.hid ea
            clear hcs ea he INV INV2 HRR
            generalize l[i].2.2 = p at *
            generalize l[k].2.2 = q at *
            obtain rfl := EA.out
            clear EA
            go_wp2
            go_region
            all_goals
              go_wp2
              go_ret
              exact ⟨rfl, hb2.drew⟩
          · have d1 : (l[i].2.2 == l[k].2.2) = false := by simp [he]
            have I3 : Hid (∀ j (_ : j < l.length), j < k + 1 → l[i].2.2 ≠ l[j].2.2) := fun j hjl hj => by
              rcases Nat.lt_succ_iff_lt_or_eq.1 hj with h | rfl
              · exact INV2.out j hjl h
              · exact he
            have EA := Lib.hid ea
            clear hcs ea he INV2
            generalize l[i].2.2 = p at *
            generalize l[k].2.2 = q at *
            obtain rfl := EA.out
            clear EA
            go_wp2
            go_region
            all_goals
              go_wp2
              go_roundw
              case rel => exact ⟨k + 1, by go_num, by omega, hb2.drew, I3⟩
              case measure => simp [intOf]; omega
        · obtain rfl : k = i := by omega
          have I3 : Hid (∀ j (_ : j < l.length) m (_ : m < j), j < k + 1 → l[j].2.2 ≠ l[m].2.2) := fun j hj m hm hjk => by
            rcases Nat.lt_succ_iff_lt_or_eq.1 hjk with h | rfl
            · exact INV.out j hj m hm h
            · exact INV2.out m (by omega) hm
          go_wp2
          go_roundw
          case rel => exact ⟨k + 1, by go_num, by omega, hb2, I3⟩
          case measure => simp [intOf]; omega
    · have hu : r = true := HRR.out ▸ (unl_yes_of fun i hi k hk => INV.out i hi k hk (by omega))
      subst hu
      clear HRR
      go_wp2
      go_ret
      exact ⟨rfl, hb⟩

end Go.Proofs.YthpgkldpbbajfaaGreat

/- gridironlaw15.awake answers true. -/
namespace Go.Proofs.YthpgkldpbbajfaaGreat
open Go.RowKit Go.Maps
set_option linter.unusedSimpArgs false
set_option linter.unusedVariables false

theorem aw1 : skyOf [(0, 0, 1), (2, 5, 2), (2, 1, 3), (7, 3, 4), (7, 3, 5)] = [(2, 5, 2), (7, 3, 4), (7, 3, 5)] := by
  refine (skyOf_is (by decide)).unique ⟨by simp [ltX], fun p => ?_⟩
  obtain ⟨x, y, i⟩ := p
  constructor
  · intro h
    simp only [List.mem_cons, Prod.mk.injEq, List.not_mem_nil, or_false] at h
    rcases h with ⟨rfl, rfl, rfl⟩ | ⟨rfl, rfl, rfl⟩ | ⟨rfl, rfl, rfl⟩ <;> exact ⟨by decide, by decide⟩
  · rintro ⟨h, hb⟩
    simp only [List.mem_cons, Prod.mk.injEq, List.not_mem_nil, or_false] at h
    rcases h with ⟨rfl, rfl, rfl⟩ | ⟨rfl, rfl, rfl⟩ | ⟨rfl, rfl, rfl⟩ | ⟨rfl, rfl, rfl⟩ | ⟨rfl, rfl, rfl⟩ <;> first | (exfalso; revert hb; decide) | decide
theorem aw2 : skyOf [(2, 5, 2), (7, 3, 4), (3, 4, 6), (9, 0, 7)] = [(2, 5, 2), (3, 4, 6), (7, 3, 4), (9, 0, 7)] := by
  refine (skyOf_is (by decide)).unique ⟨by simp [ltX], fun p => ?_⟩
  obtain ⟨x, y, i⟩ := p
  constructor
  · intro h
    simp only [List.mem_cons, Prod.mk.injEq, List.not_mem_nil, or_false] at h
    rcases h with ⟨rfl, rfl, rfl⟩ | ⟨rfl, rfl, rfl⟩ | ⟨rfl, rfl, rfl⟩ | ⟨rfl, rfl, rfl⟩ <;> exact ⟨by decide, by decide⟩
  · rintro ⟨h, hb⟩
    simp only [List.mem_cons, Prod.mk.injEq, List.not_mem_nil, or_false] at h
    rcases h with ⟨rfl, rfl, rfl⟩ | ⟨rfl, rfl, rfl⟩ | ⟨rfl, rfl, rfl⟩ | ⟨rfl, rfl, rfl⟩ <;> first | (exfalso; revert hb; decide) | decide
theorem aw3 : rightF [(2, 5, 2), (7, 3, 4)] = true := by decide
theorem aw4 : rightF [(3, 4, 6), (9, 0, 7)] = true := by decide
theorem aw5 : (rightF [(2, 5, 2), (4, 5, 3)] && rightF []) = false := by decide
theorem aw6 : rightF [(2, 5, 2), (3, 4, 6), (7, 3, 4), (9, 0, 7)] = true := by decide
theorem aw7 : ids [(2, 5, 2), (7, 3, 4), (7, 3, 5)] = [2, 4, 5] := by decide
theorem aw8 : ids [(2, 5, 2), (3, 4, 6), (7, 3, 4), (9, 0, 7)] = [2, 6, 4, 7] := by decide
theorem wfI_of {l : List Pt} (h : (l.all fun p => (Lit.int .u32 p.2.2).wf) = true) : wfI l := fun p hp => List.all_eq_true.1 h p hp

set_option maxRecDepth 100000 in
set_option maxHeartbeats 4000000 in
theorem awake15 (w : World) : Calls Tryz.prog 16 #[] w fun e w' => e = .returned (.bool true) ∧ Below w.heap.size w w' := by
  have L := Lib.hid (RdK.lit (sz := 3) ePt_len)
  go_enter Tryz.func16, Tryz.ntmps16
  go_wp2_with fail
  have B0 : Below w.heap.size w (w.alloc (.cells #[.int .i64 0, .int .i64 0, .int .u32 1, .int .i64 2, .int .i64 5, .int .u32 2, .int .i64 2, .int .i64 1, .int .u32 3, .int .i64 7, .int .i64 3, .int .u32 4, .int .i64 7, .int .i64 3, .int .u32 5] 34)) := (Below.refl _ _).alloc (Nat.le_refl _) _
  have RL := L.out w 34 [(0, 0, 1), (2, 5, 2), (2, 1, 3), (7, 3, 4), (7, 3, 5)] w.heap.size rfl
  have c := of_yes _ [(0, 0, 1), (2, 5, 2), (2, 1, 3), (7, 3, 4), (7, 3, 5)] 5 5 _ rfl RL (by decide) (wfI_of (by decide)) (by decide)
  rw [aw1] at c
  simp only [List.flatMap_cons, List.flatMap_nil, List.append_nil, ePt, List.cons_append, List.nil_append, List.length_cons, List.length_nil, Nat.zero_add, Nat.reduceAdd] at c
  refine c.mono ?_
  rintro e w1 ⟨v1, rfl, hown1, hb1⟩
  have B1 : Below w.heap.size w w1 := B0.trans (hb1.mono (by simp))
  have RL1 := RL.below hb1
  obtain ⟨a1, c1, rfl, -, -, hr1⟩ := RdK.of_owns (l := [(2, 5, 2), (7, 3, 4), (7, 3, 5)]) (enc := ePt) ePt_len (by decide) hown1
  have R1 := Lib.hid hr1
  have hsz1 : w.heap.size + 1 ≤ w1.heap.size := by have := hb1.size; simpa using this
  obtain ⟨b, off, ea, hbl, hcs⟩ := RL1.get (by decide)
  obtain ⟨rfl, rfl⟩ : b = w.heap.size ∧ off = 0 := by injection ea with ea; injection ea with e1 e2; exact ⟨e1.symm, e2.symm⟩
  have x0 := hcs 1 (by decide) 0 (by decide)
  have x1 := hcs 1 (by decide) 1 (by decide)
  have x2 := hcs 1 (by decide) 2 (by decide)
  have y0 := hcs 3 (by decide) 0 (by decide)
  have y1 := hcs 3 (by decide) 1 (by decide)
  have y2 := hcs 3 (by decide) 2 (by decide)
  simp only [List.flatMap_cons, List.flatMap_nil, List.append_nil, ePt, List.cons_append, List.nil_append, List.getElem_cons_succ, List.getElem_cons_zero, List.getElem?_cons_zero, List.getElem?_cons_succ, Nat.add_zero, Nat.zero_add, Nat.one_mul, Nat.reduceMul, Nat.reduceAdd] at x0 x1 x2 y0 y1 y2
  clear hcs ea c hown1 hr1 RL1
  have SZ := B1.size
  have XA : Below w1.heap.size w1 ((w1.alloc (.cells #[.int .i64 2, .int .i64 5, .int .u32 2, .int .i64 7, .int .i64 3, .int .u32 4] 34)).alloc (.cells #[.int .i64 3, .int .i64 4, .int .u32 6, .int .i64 9, .int .i64 0, .int .u32 7] 34)).drew := (((Below.refl _ w1).alloc (Nat.le_refl _) _).alloc (by simp) _).drew
  have XB : Below w1.heap.size w1 ((w1.alloc (.cells #[.int .i64 3, .int .i64 4, .int .u32 6, .int .i64 9, .int .i64 0, .int .u32 7] 34)).alloc (.cells #[.int .i64 2, .int .i64 5, .int .u32 2, .int .i64 7, .int .i64 3, .int .u32 4] 34)).drew := (((Below.refl _ w1).alloc (Nat.le_refl _) _).alloc (by simp) _).drew
  have cA := merge_yes (some ⟨w1.heap.size, 0, none⟩) (some ⟨w1.heap.size + 1, 0, none⟩) [(2, 5, 2), (7, 3, 4)] [(3, 4, 6), (9, 0, 7)] 2 2 2 2 ((w1.alloc (.cells #[.int .i64 2, .int .i64 5, .int .u32 2, .int .i64 7, .int .i64 3, .int .u32 4] 34)).alloc (.cells #[.int .i64 3, .int .i64 4, .int .u32 6, .int .i64 9, .int .i64 0, .int .u32 7] 34)).drew rfl rfl (by decide) (by decide)
    (((L.out w1 34 [(2, 5, 2), (7, 3, 4)] w1.heap.size rfl).below ((Below.refl _ _).alloc (Nat.le_refl _) _)).below (Below.drewAny _ 1)) ((L.out (w1.alloc (.cells #[.int .i64 2, .int .i64 5, .int .u32 2, .int .i64 7, .int .i64 3, .int .u32 4] 34)) 34 [(3, 4, 6), (9, 0, 7)] (w1.heap.size + 1) (by simp)).below (Below.drewAny _ 1)) (by decide) (wfI_of (by decide)) (wfI_of (by decide)) aw3 aw4 (by decide)
  have cB := merge_yes (some ⟨w1.heap.size + 1, 0, none⟩) (some ⟨w1.heap.size, 0, none⟩) [(2, 5, 2), (7, 3, 4)] [(3, 4, 6), (9, 0, 7)] 2 2 2 2 ((w1.alloc (.cells #[.int .i64 3, .int .i64 4, .int .u32 6, .int .i64 9, .int .i64 0, .int .u32 7] 34)).alloc (.cells #[.int .i64 2, .int .i64 5, .int .u32 2, .int .i64 7, .int .i64 3, .int .u32 4] 34)).drew rfl rfl (by decide) (by decide)
    ((L.out (w1.alloc (.cells #[.int .i64 3, .int .i64 4, .int .u32 6, .int .i64 9, .int .i64 0, .int .u32 7] 34)) 34 [(2, 5, 2), (7, 3, 4)] (w1.heap.size + 1) (by simp)).below (Below.drewAny _ 1)) (((L.out w1 34 [(3, 4, 6), (9, 0, 7)] w1.heap.size rfl).below ((Below.refl _ _).alloc (Nat.le_refl _) _)).below (Below.drewAny _ 1)) (by decide) (wfI_of (by decide)) (wfI_of (by decide)) aw3 aw4 (by decide)
  rw [show [(2, 5, 2), (7, 3, 4)] ++ [(3, 4, 6), (9, 0, 7)] = ([(2, 5, 2), (7, 3, 4), (3, 4, 6), (9, 0, 7)] : List Pt) from rfl, aw2] at cA cB
  have fin : ∀ W, Below w1.heap.size w1 W → ∀ (e : Ending) w', (∃ v, e = .returned (.tuple #[v, .int .i64 0]) ∧ w'.ownsRow W.heap.size 34 3 v ([(2, 5, 2), (3, 4, 6), (7, 3, 4), (9, 0, 7)] : List Pt).length (([(2, 5, 2), (3, 4, 6), (7, 3, 4), (9, 0, 7)] : List Pt).flatMap ePt) ∧ Below W.heap.size W w') → ∃ a2 c2, e = .returned (.tuple #[.slice a2 4 c2, .int .i64 0]) ∧ Hid (RdK ePt 3 w' a2 [(2, 5, 2), (3, 4, 6), (7, 3, 4), (9, 0, 7)]) ∧ Below w1.heap.size w1 w' := by
    rintro W hW e w' ⟨v, rfl, hown, hb⟩
    obtain ⟨a2, c2, rfl, -, -, hr⟩ := RdK.of_owns (l := [(2, 5, 2), (3, 4, 6), (7, 3, 4), (9, 0, 7)]) (enc := ePt) ePt_len (by decide) hown
    exact ⟨a2, c2, rfl, hr, hW.trans (hb.mono hW.size)⟩
  have KA := cA.mono (fin _ XA)
  have KB := cB.mono (fin _ XB)
  clear cA cB fin XA XB
  go_upto_region 3 with fail
  go_cut [4, 5] from 28 to 41 (fun v4 v5 wx => ∃ a2 c2, v4 = .slice a2 4 c2 ∧ v5 = .int .i64 0 ∧ Hid (RdK ePt 3 wx a2 [(2, 5, 2), (3, 4, 6), (7, 3, 4), (9, 0, 7)]) ∧ Below w1.heap.size w1 wx)
  case first =>
    go_region_with (first
      | (go_at_call 51; with_reducible refine KA.mono ?_; rintro e w' ⟨a2, c2, rfl, h1, h2⟩)
      | (go_at_call 51; with_reducible refine KB.mono ?_; rintro e w' ⟨a2, c2, rfl, h1, h2⟩))
    all_goals go_wp2_with fail
    all_goals go_meet
    all_goals exact ⟨_, _, rfl, rfl, h1, h2⟩
  case rest =>
    obtain ⟨a2, c2, rfl, rfl, R2, hb2⟩ := hcut
    have B2 := B1.trans (hb2.mono B1.size)
    have R1' := Lib.hid (R1.out.below hb2)
    clear KA KB R1 x0 x1 x2 y0 y1 y2 RL hb1 hb2 B0 B1 hbl hsz1 SZ
    go_wp2_with fail
    have c := beats_yes a2 [(2, 5, 2), (3, 4, 6), (7, 3, 4), (9, 0, 7)] 4 c2 (1, 1, 0) wc rfl R2.out (by decide) (wfI_of (by decide)) aw6
    rw [show btn [(2, 5, 2), (3, 4, 6), (7, 3, 4), (9, 0, 7)] (1, 1, 0) = true by decide] at c
    refine c.mono ?_
    rintro e w3 ⟨⟨k3, rfl, -⟩, hb3⟩
    have B3 := B2.trans (hb3.mono B2.size)
    have R1d := Lib.hid (R1'.out.below hb3)
    have R2d := Lib.hid (R2.out.below hb3)
    clear c hb3 B2 R1' R2
    go_wp2_with fail
    have c := beats_yes a2 [(2, 5, 2), (3, 4, 6), (7, 3, 4), (9, 0, 7)] 4 c2 (3, 4, 0) w3 rfl R2d.out (by decide) (wfI_of (by decide)) aw6
    rw [show btn [(2, 5, 2), (3, 4, 6), (7, 3, 4), (9, 0, 7)] (3, 4, 0) = false by decide] at c
    refine c.mono ?_
    rintro e w4 ⟨⟨k4, rfl, -⟩, hb4⟩
    have B4 := B3.trans (hb4.mono B3.size)
    have R1e := Lib.hid (R1d.out.below hb4)
    have R2e := Lib.hid (R2d.out.below hb4)
    clear c hb4 B3 R1d R2d
    go_wp2_with fail
    have c := beats_yes a2 [(2, 5, 2), (3, 4, 6), (7, 3, 4), (9, 0, 7)] 4 c2 (9, 1, 0) w4 rfl R2e.out (by decide) (wfI_of (by decide)) aw6
    rw [show btn [(2, 5, 2), (3, 4, 6), (7, 3, 4), (9, 0, 7)] (9, 1, 0) = false by decide] at c
    refine c.mono ?_
    rintro e w5 ⟨⟨k5, rfl, -⟩, hb5⟩
    have B5 := B4.trans (hb5.mono B4.size)
    have R1f := Lib.hid (R1e.out.below hb5)
    have R2f := Lib.hid (R2e.out.below hb5)
    clear c hb5 B4 R1e R2e
    go_wp2_with fail
    have c := merge_stair _ none [(2, 5, 2), (4, 5, 3)] [] 2 0 2 0 _ rfl rfl (L.out w5 34 [(2, 5, 2), (4, 5, 3)] w5.heap.size rfl) RdK.nil (by decide) (wfI_of (by decide)) (wfI_of (by decide)) aw5
    simp only [List.flatMap_cons, List.flatMap_nil, List.append_nil, ePt, List.cons_append, List.nil_append, List.length_cons, List.length_nil, Nat.zero_add, Nat.reduceAdd] at c
    refine c.mono ?_
    rintro e w6 ⟨rfl, hb6⟩
    have hbx := ((Below.refl _ _).alloc (Nat.le_refl _) _).trans (hb6.mono (by simp))
    have B6 := B5.trans (hbx.mono B5.size)
    have R1g := Lib.hid (R1f.out.below hbx)
    have R2g := Lib.hid (R2f.out.below hbx)
    clear c hb6 hbx B5 R1f R2f
    go_wp2_with fail
    have c := names_calls _ _ [(2, 5, 2), (7, 3, 4), (7, 3, 5)] [2, 4, 5] 3 3 c1 3 _ rfl rfl (R1g.out.below ((Below.refl _ _).alloc (Nat.le_refl _) _)) (Rd.lit (enc := Value.int .u32) w6 32 [2, 4, 5] _ rfl) (by decide) (by decide)
    rw [aw7] at c
    simp only [decide_true, List.map_cons, List.map_nil, List.length_cons, List.length_nil, Nat.zero_add, Nat.reduceAdd] at c
    refine c.mono ?_
    rintro e w7 ⟨rfl, hb7⟩
    have hbx := ((Below.refl _ _).alloc (Nat.le_refl _) _).trans (hb7.mono (by simp))
    have B7 := B6.trans (hbx.mono B6.size)
    have R2h := Lib.hid (R2g.out.below hbx)
    clear c hb7 hbx B6 R1g R2g
    go_wp2_with fail
    have c := names_calls _ _ [(2, 5, 2), (3, 4, 6), (7, 3, 4), (9, 0, 7)] [2, 6, 4, 7] 4 4 c2 4 _ rfl rfl (R2h.out.below ((Below.refl _ _).alloc (Nat.le_refl _) _)) (Rd.lit (enc := Value.int .u32) w7 32 [2, 6, 4, 7] _ rfl) (by decide) (by decide)
    rw [aw8] at c
    simp only [decide_true, List.map_cons, List.map_nil, List.length_cons, List.length_nil, Nat.zero_add, Nat.reduceAdd] at c
    refine c.mono ?_
    rintro e w8 ⟨rfl, hb8⟩
    have hbx := ((Below.refl _ _).alloc (Nat.le_refl _) _).trans (hb8.mono (by simp))
    have B8 := B7.trans (hbx.mono B7.size)
    go_wp2
    go_ret
    exact ⟨rfl, B8⟩

end Go.Proofs.YthpgkldpbbajfaaGreat

/- Skylines of parts: the plain law; and the contracts of Of and Merge in a short form. -/
namespace Go.Proofs.YthpgkldpbbajfaaGreat
open Go.RowKit Go.Maps

theorem skyOf_len {l : List Pt} : (skyOf l).length ≤ l.length := by
  have h1 : (skyOf l).length ≤ (srtX l).length := by unfold skyOf sky; exact List.length_filter_le _ _
  rw [(srtX_perm l).length_eq] at h1
  exact h1


theorem btn_append (A B : List Pt) (p : Pt) : btn (A ++ B) p = (btn A p || btn B p) := by unfold btn; rw [List.any_append]

theorem IsSky.self {l T : List Pt} (h : IsSky l T) : IsSky T T := ⟨h.1, fun p => ⟨fun hp => ⟨hp, by rw [btn_sky h]; exact ((h.2 p).1 hp).2⟩, fun hp => hp.1⟩⟩

theorem sky_sub {l : List Pt} (hu : unl l = true) {p : Pt} (h : p ∈ skyOf l) : p ∈ l := ((skyOf_is ((unl_iff l).1 hu)).2 p).1 h |>.1

theorem unl_sky {l : List Pt} (hu : unl l = true) : unl (skyOf l) = true := by
  rw [unl_iff] at *
  have h1 : (ids (srtX l)).Nodup := ((srtX_perm l).map _).nodup_iff.2 hu
  unfold skyOf sky
  exact h1.sublist (List.Sublist.map _ List.filter_sublist)

theorem rightF_sky {l : List Pt} (hu : unl l = true) : rightF (skyOf l) = true := by
  unfold rightF
  rw [(chainOK_sky _).2 (skyOf_is ((unl_iff l).1 hu)).self, unl_sky hu]
  rfl

theorem sky_idem {l : List Pt} (hu : unl l = true) : skyOf (skyOf l) = skyOf l :=
  (skyOf_is ((unl_iff _).1 (unl_sky hu))).unique (skyOf_is ((unl_iff l).1 hu)).self

theorem wfI_sky {l : List Pt} (hu : unl l = true) (h : wfI l) : wfI (skyOf l) := fun p hp => h p (sky_sub hu hp)

theorem unl_app {A B : List Pt} : unl (A ++ B) = true ↔ unl A = true ∧ unl B = true ∧ ∀ p ∈ A, ∀ q ∈ B, p.2.2 ≠ q.2.2 := by
  simp only [unl_iff, ids, List.map_append, List.nodup_append, List.mem_map]
  refine and_congr Iff.rfl (and_congr Iff.rfl ⟨fun h p hp q hq => h _ ⟨p, hp, rfl⟩ _ ⟨q, hq, rfl⟩, ?_⟩)
  rintro h _ ⟨p, hp, rfl⟩ _ ⟨q, hq, rfl⟩
  exact h p hp q hq

theorem unl_skies {A B : List Pt} (h : unl (A ++ B) = true) : unl (skyOf A ++ skyOf B) = true := by
  rw [unl_app] at *
  exact ⟨unl_sky h.1, unl_sky h.2.1, fun p hp q hq => h.2.2 p (sky_sub h.1 hp) q (sky_sub h.2.1 hq)⟩

theorem unl_swap {A B : List Pt} (h : unl (A ++ B) = true) : unl (B ++ A) = true := by
  rw [unl_app] at *
  exact ⟨h.2.1, h.1, fun p hp q hq => (h.2.2 q hq p hp).symm⟩

theorem sky_congr {l m : List Pt} (hl : unl l = true) (hm : unl m = true) (h : ∀ p, (p ∈ l ∧ btn l p = false) ↔ (p ∈ m ∧ btn m p = false)) : skyOf l = skyOf m := by
  have h1 := skyOf_is ((unl_iff _).1 hl)
  exact IsSky.unique (l := m) ⟨h1.1, fun p => (h1.2 p).trans (h p)⟩ (skyOf_is ((unl_iff _).1 hm))

theorem sky_join {A B : List Pt} (h : unl (A ++ B) = true) : skyOf (skyOf A ++ skyOf B) = skyOf (A ++ B) := by
  have ha := (unl_app.1 h).1
  have hb := (unl_app.1 h).2.1
  have hA := skyOf_is ((unl_iff _).1 ha)
  have hB := skyOf_is ((unl_iff _).1 hb)
  refine sky_congr (unl_skies h) h fun p => ?_
  rw [btn_append, btn_append, btn_sky hA, btn_sky hB, List.mem_append, List.mem_append, hA.2 p, hB.2 p, Bool.or_eq_false_iff]
  constructor
  · rintro ⟨h1 | h1, h2⟩
    · exact ⟨.inl h1.1, h2⟩
    · exact ⟨.inr h1.1, h2⟩
  · rintro ⟨h1 | h1, h2⟩
    · exact ⟨.inl ⟨h1, h2.1⟩, h2⟩
    · exact ⟨.inr ⟨h1, h2.2⟩, h2⟩

theorem sky_swap {A B : List Pt} (h : unl (A ++ B) = true) : skyOf (B ++ A) = skyOf (A ++ B) :=
  sky_congr (unl_swap h) h fun p => by
    rw [btn_append, btn_append, List.mem_append, List.mem_append, Bool.or_comm, Or.comm]

theorem sky_nil : skyOf [] = [] := by simp [skyOf, sky, srtX]

/-! The contracts. -/
/-- what Of and Merge answer: these points, in a slice that reads as them, no error -/
def OkS (S : List Pt) (W : World) (e : Ending) (w' : World) : Prop := ∃ a' c', e = .returned (.tuple #[.slice a' S.length c', .int .i64 0]) ∧ S.length ≤ c' ∧ Hid (RdK ePt 3 w' a' S) ∧ Below W.heap.size W w'
theorem ofC (X : List Pt) (hu : unl X = true) (hw : wfI X) (hl : X.length ≤ 100000) (a : Option Addr) (n c : Nat) (W : World) (hn : X.length = n) (h : RdK ePt 3 W a X) :
    Calls Tryz.prog 17 #[.slice a n c] W (OkS (skyOf X) W) :=
  (of_yes a X n c W hn h (by omega) hw hu).mono fun e w' => by
    rintro ⟨v, rfl, hown, hb⟩
    obtain ⟨a', c', rfl, -, hc, hr⟩ := RdK.of_owns ePt_len (by decide) hown
    exact ⟨a', c', rfl, hc, hr, hb⟩
end Go.Proofs.YthpgkldpbbajfaaGreat
