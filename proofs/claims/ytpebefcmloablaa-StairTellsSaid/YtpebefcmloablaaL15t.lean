/- The law StairTells, walked. -/
import Derived.Test.YtpebefcmloablaaSkL
import Derived.Test.YtpebefcmloablaaL15b
import Derived.Deep.CutRange
namespace Go.Proofs.Ytpebefcmloablaa
open Go.RowKit Go.Maps
attribute [local irreducible] wpQuiet
set_option linter.unusedSimpArgs false
set_option linter.unusedVariables false

/-- these points, and an error's number -/
def OkE (S : List Pt) (er : Int) (W : World) (e : Ending) (w' : World) : Prop := ∃ a' c', e = .returned (.tuple #[.slice a' S.length c', .int .i64 er]) ∧ S.length ≤ c' ∧ Hid (RdK ePt 3 w' a' S) ∧ Below W.heap.size W w'

theorem OkE.of_owns {S : List Pt} {W : World} {e : Ending} {w' : World} (h : ∃ v, e = .returned (.tuple #[v, .int .i64 0]) ∧ w'.ownsRow W.heap.size 33 3 v S.length (S.flatMap ePt) ∧ Below W.heap.size W w') : OkE S 0 W e w' := by
  obtain ⟨v, rfl, hown, hb⟩ := h
  obtain ⟨a', c', rfl, -, hc, hr⟩ := RdK.of_owns ePt_len (by decide) hown
  exact ⟨a', c', rfl, hc, hr, hb⟩

theorem OkE.none' {er : Int} {W : World} {e : Ending} {w' : World} (h : e = .returned (.tuple #[.slice none 0 0, .int .i64 er]) ∧ Below W.heap.size W w') : OkE [] er W e w' := by
  obtain ⟨rfl, hb⟩ := h
  exact ⟨none, 0, rfl, Nat.le_refl _, .nil, hb⟩

def ofF (l : List Pt) : List Pt × Int := if unl l = true then (skyOf l, 0) else ([], 2)
def mrgE (A B : List Pt) : List Pt × Int := if (rightF A && rightF B) = true then (if unl (A ++ B) = true then (skyOf (A ++ B), 0) else ([], 2)) else ([], 150)
def btE (A : List Pt) (p : Pt) : Bool × Int := if rightF A = true then (btn A p, 0) else (false, 150)

theorem ofE (X : List Pt) (hw : wfI X) (hl : X.length ≤ 100000) (a : Option Addr) (n c : Nat) (W : World) (hn : X.length = n) (h : RdK ePt 3 W a X) :
    Calls Try.prog 15 #[.slice a n c] W (OkE (ofF X).1 (ofF X).2 W) := by
  unfold ofF
  rcases Bool.eq_false_or_eq_true (unl X) with hu | hu
  · rw [if_pos hu]
    exact (of_yes a X n c W hn h (by omega) hw hu).mono fun e w' h => OkE.of_owns h
  · rw [if_neg (by rw [hu]; decide)]
    exact (of_no a X n c W hn h (by omega) hw hu).mono fun e w' h => OkE.none' h

theorem mergeE (A B : List Pt) (hwa : wfI A) (hwb : wfI B) (hl : A.length + B.length ≤ 100000) (a b : Option Addr) (na nb ca cb : Nat) (W : World) (hna : A.length = na) (hnb : B.length = nb) (hca : na ≤ ca) (hcb : nb ≤ cb) (ha : RdK ePt 3 W a A) (hb : RdK ePt 3 W b B) :
    Calls Try.prog 19 #[.slice a na ca, .slice b nb cb] W (OkE (mrgE A B).1 (mrgE A B).2 W) := by
  unfold mrgE
  rcases Bool.eq_false_or_eq_true (rightF A && rightF B) with hr | hr
  · rw [if_pos hr]
    simp only [Bool.and_eq_true] at hr
    rcases Bool.eq_false_or_eq_true (unl (A ++ B)) with hu | hu
    · rw [if_pos hu]
      exact (merge_yes a b A B na nb ca cb W hna hnb hca hcb ha hb (by omega) hwa hwb hr.1 hr.2 hu).mono fun e w' h => OkE.of_owns h
    · rw [if_neg (by rw [hu]; decide)]
      exact (merge_arg a b A B na nb ca cb W hna hnb ha hb (by omega) hwa hwb hr.1 hr.2 hu).mono fun e w' h => OkE.none' h
  · rw [if_neg (by rw [hr]; decide)]
    exact (merge_stair a b A B na nb ca cb W hna hnb ha hb (by omega) hwa hwb hr).mono fun e w' h => OkE.none' h

theorem refMergeE (A B : List Pt) (hl : A.length + B.length ≤ 100000) (a b : Option Addr) (na nb ca cb : Nat) (W : World) (hna : A.length = na) (hnb : B.length = nb) (ha : RdK ePt 3 W a A) (hb : RdK ePt 3 W b B) :
    Calls Try.prog 20 #[.slice a na ca, .slice b nb cb] W (OkE (mrgE A B).1 (mrgE A B).2 W) := by
  unfold mrgE
  rcases Bool.eq_false_or_eq_true (rightF A && rightF B) with hr | hr
  · rw [if_pos hr]
    simp only [Bool.and_eq_true] at hr
    rcases Bool.eq_false_or_eq_true (unl (A ++ B)) with hu | hu
    · rw [if_pos hu]
      exact (ref15_merge_yes a b A B na nb ca cb W hna hnb ha hb (by omega) hr.1 hr.2 hu).mono fun e w' h => OkE.of_owns h
    · rw [if_neg (by rw [hu]; decide)]
      exact (ref15_merge_arg a b A B na nb ca cb W hna hnb ha hb (by omega) hr.1 hr.2 hu).mono fun e w' h => OkE.none' h
  · rw [if_neg (by rw [hr]; decide)]
    exact (ref15_merge_stair a b A B na nb ca cb W hna hnb ha hb (by omega) hr).mono fun e w' h => OkE.none' h

theorem beatsE (A : List Pt) (hw : wfI A) (hl : A.length ≤ 100000) (a : Option Addr) (n c : Nat) (p : Pt) (W : World) (hn : A.length = n) (h : RdK ePt 3 W a A) :
    Calls Try.prog 23 #[.slice a n c, vPt p.1 p.2.1 p.2.2] W fun e w' => ∃ k : Nat, e = .returned (.tuple #[.bool (btE A p).1, .int .i64 k, .int .i64 (btE A p).2]) ∧ ((btE A p).2 = 0 ∨ k = 0) ∧ Below W.heap.size W w' := by
  unfold btE
  rcases Bool.eq_false_or_eq_true (rightF A) with hr | hr
  · rw [if_pos hr]
    exact (beats_yes a A n c p W hn h (by omega) hw hr).mono fun e w' ⟨⟨k, h1, _⟩, h2⟩ => ⟨k, h1, .inl rfl, h2⟩
  · rw [if_neg (by rw [hr]; decide)]
    exact (beats_no a A n c p W hn h (by omega) hw hr).mono fun e w' ⟨h1, h2⟩ => ⟨0, h1, .inr rfl, h2⟩

theorem refBeatsE (A : List Pt) (hl : A.length ≤ 100000) (a : Option Addr) (n c : Nat) (p : Pt) (W : World) (hn : A.length = n) (h : RdK ePt 3 W a A) :
    Calls Try.prog 24 #[.slice a n c, vPt p.1 p.2.1 p.2.2] W fun e w' => e = .returned (.tuple #[.bool (btE A p).1, .int .i64 (btE A p).2]) ∧ Below W.heap.size W w' := by
  unfold btE
  rcases Bool.eq_false_or_eq_true (rightF A) with hr | hr
  · rw [if_pos hr]
    exact ref15_beats_yes a A n c p W hn h (by omega) hr
  · rw [if_neg (by rw [hr]; decide)]
    exact ref15_beats_no a A n c p W hn h (by omega) hr

theorem refOfR (X : List Pt) (hu : unl X = true) (hl : X.length ≤ 100000) (a : Option Addr) (n c : Nat) (W : World) (hn : X.length = n) (h : RdK ePt 3 W a X) :
    Calls Try.prog 18 #[.slice a n c] W fun e w' => ∃ a' c', e = .returned (.slice a' (skyOf X).length c') ∧ Hid (RdK ePt 3 w' a' (skyOf X)) ∧ Below W.heap.size W w' :=
  (ref_of a X n c W hn h (by omega) hu).mono fun e w' h => by
    obtain ⟨v, rfl, hown, hb⟩ := h
    obtain ⟨a', c', rfl, -, hc, hr⟩ := RdK.of_owns ePt_len (by decide) hown
    exact ⟨a', c', rfl, hr, hb⟩

set_option maxRecDepth 100000 in
set_option maxHeartbeats 8000000 in
theorem wStairTells (a0 a1 a2 a3 : Option Addr) (l A B at_ : List Pt) (n0 n1 n2 n3 c0 c1 c2 c3 : Nat) (w : World) (hn0 : l.length = n0) (hn1 : A.length = n1) (hn2 : B.length = n2) (hn3 : at_.length = n3) (h0 : RdK ePt 3 w a0 l) (h1 : RdK ePt 3 w a1 A) (h2 : RdK ePt 3 w a2 B) (h3 : RdK ePt 3 w a3 at_) (m1 : n1 ≤ c1) (m2 : n2 ≤ c2) (m3 : n3 ≤ c3 ∧ c3 ≤ maxLen) (hw0 : wfI l) (hw1 : wfI A) (hw2 : wfI B) :
    Calls Try.prog 3 #[.slice a0 n0 c0, .slice a1 n1 c1, .slice a2 n2 c2, .slice a3 n3 c3] w fun e w' => e = .returned (.bool true) ∧ Below w.heap.size w w' := by
  subst hn0 hn1 hn2 hn3
  have AW := Lib.hid awake15
  obtain ⟨m3, m3'⟩ := m3
  unfold maxLen at m3'
  have H0 := Lib.hid h0
  have H1 := Lib.hid h1
  have H2 := Lib.hid h2
  have H3 := Lib.hid h3
  clear h0 h1 h2 h3
  by_cases hx0 : 60 < l.length
  · have d0 : decide ((60 : Int) < (l.length : Int)) = true := by simp; omega
    go_enter Try.func3, Try.ntmps3
    go_wp2_with fail
    refine (AW.out w).mono ?_
    rintro e w1 ⟨rfl, hb⟩
    go_wp2_with fail
    go_ret
    exact ⟨rfl, hb⟩
  have d0 : decide ((60 : Int) < (l.length : Int)) = false := by simp; omega
  by_cases hx1 : 40 < A.length
  · have d1 : decide ((40 : Int) < (A.length : Int)) = true := by simp; omega
    go_enter Try.func3, Try.ntmps3
    go_wp2_with fail
    refine (AW.out w).mono ?_
    rintro e w1 ⟨rfl, hb⟩
    go_wp2_with fail
    go_ret
    exact ⟨rfl, hb⟩
  have d1 : decide ((40 : Int) < (A.length : Int)) = false := by simp; omega
  by_cases hx2 : 40 < B.length
  · have d2 : decide ((40 : Int) < (B.length : Int)) = true := by simp; omega
    go_enter Try.func3, Try.ntmps3
    go_wp2_with fail
    refine (AW.out w).mono ?_
    rintro e w1 ⟨rfl, hb⟩
    go_wp2_with fail
    go_ret
    exact ⟨rfl, hb⟩
  have d2 : decide ((40 : Int) < (B.length : Int)) = false := by simp; omega
  have hsk := skyOf_len (l := l)
  have O1 := Lib.hid (fun W hr => ofE l hw0 (by omega) a0 l.length c0 W rfl hr)
  have O2 := Lib.hid (fun W hr => ref_right a0 l l.length c0 W rfl hr (by omega))
  have O3 := Lib.hid (fun W hr hu => refOfR l hu (by omega) a0 l.length c0 W rfl hr)
  have SM := Lib.hid (sameC (skyOf l) (by omega))
  have HOF : Hid ((unl l = true → (ofF l).1 = skyOf l ∧ (ofF l).2 = 0) ∧ (unl l = false → (ofF l).1 = [] ∧ (ofF l).2 = 2)) := ⟨fun h => by rw [ofF, if_pos h]; exact ⟨rfl, rfl⟩, fun h => by rw [ofF, if_neg (by rw [h]; decide)]; exact ⟨rfl, rfl⟩⟩
  have M1 := Lib.hid (fun W ha hb => mergeE A B hw1 hw2 (by omega) a1 a2 A.length B.length c1 c2 W rfl rfl m1 m2 ha hb)
  have M2 := Lib.hid (fun W ha hb => refMergeE A B (by omega) a1 a2 A.length B.length c1 c2 W rfl rfl ha hb)
  have hml : (mrgE A B).1.length ≤ 100000 := by
    unfold mrgE
    have := skyOf_len (l := A ++ B)
    rw [List.length_append] at this
    split
    · split
      · show (skyOf (A ++ B)).length ≤ _
        omega
      · show 0 ≤ _
        omega
    · show 0 ≤ _
      omega
  have SM2 := Lib.hid (sameC (mrgE A B).1 (by omega))
  have G1 := Lib.hid (fun W h => right_calls a0 l l.length c0 W rfl h (by omega) hw0)
  have G2 := Lib.hid (fun W h => ref15_right a0 l l.length c0 W rfl h (by omega))
  have G3 := Lib.hid (fun W h => right_calls a1 A A.length c1 W rfl h (by omega) hw1)
  have G4 := Lib.hid (fun W h => ref15_right a1 A A.length c1 W rfl h (by omega))
  have BE := Lib.hid (fun p W h => beatsE A hw1 (by omega) a1 A.length c1 p W rfl h)
  have RE := Lib.hid (fun p W h => refBeatsE A (by omega) a1 A.length c1 p W rfl h)
  have HH : Hid (∀ W, Below w.heap.size w W → RdK ePt 3 W a0 l ∧ RdK ePt 3 W a1 A ∧ RdK ePt 3 W a2 B ∧ RdK ePt 3 W a3 at_) := fun W hW => ⟨H0.out.below hW, H1.out.below hW, H2.out.below hW, H3.out.below hW⟩
  clear hw0 hw1 hw2 hsk hml H0 H1 H2 H3
  generalize skyOf l = S at *
  generalize (ofF l).1 = S1 at *
  generalize (ofF l).2 = e1 at *
  generalize unl l = U at *
  generalize rightF l = Rl at *
  generalize (mrgE A B).1 = M at *
  generalize (mrgE A B).2 = e2 at *
  generalize rightF A = RA at *
  have dl : (Rl != Rl) = false := by simp
  have da : (RA != RA) = false := by simp
  have de : (e2 != e2) = false := by simp
  go_enter Try.func3, Try.ntmps3
  go_wp2_with fail
  refine (O1.out w (HH.out w (Below.refl _ _)).1).mono ?_
  rintro e w1 ⟨s1, cs1, rfl, -, RS1, hb1⟩
  go_wp2_with fail
  refine (O2.out w1 (HH.out w1 hb1).1).mono ?_
  rintro e w2 ⟨rfl, hb2⟩
  have B2 := hb1.trans (hb2.mono hb1.size)
  have RS2 := Lib.hid (RS1.out.below hb2)
  clear hb1 hb2 RS1
  go_upto_if 43 with fail
  go_cut [] from 44 to 59 (fun wx => Below w2.heap.size w2 wx)
  case first =>
    cases U
    · obtain ⟨h1, h2⟩ := HOF.out.2 rfl
      subst h1 h2
      go_wp2
      go_meet
      exact Below.refl _ _
    · obtain ⟨h1, h2⟩ := HOF.out.1 rfl
      subst h1 h2
      go_wp2_with fail
      refine (O3.out w2 (HH.out w2 B2).1 trivial).mono ?_
      rintro e w3 ⟨s3, cs3, rfl, RS3, hb3⟩
      go_wp2_with fail
      refine (SM.out _ _ _ _ w3 (RS2.out.below hb3) RS3.out).mono ?_
      rintro e w4 ⟨rfl, hb4⟩
      go_wp2
      go_meet
      exact hb3.trans (hb4.mono hb3.size)
  case rest =>
    have B3 := B2.trans (hcut.mono B2.size)
    clear hcut RS2 O1 O2 O3 SM HOF B2
    go_wp2_with fail
    refine (M1.out wc (HH.out wc B3).2.1 (HH.out wc B3).2.2.1).mono ?_
    rintro e w4 ⟨s4, cs4, rfl, -, RS4, hb4⟩
    have B4 := B3.trans (hb4.mono B3.size)
    go_wp2_with fail
    refine (M2.out w4 (HH.out w4 B4).2.1 (HH.out w4 B4).2.2.1).mono ?_
    rintro e w5 ⟨s5, cs5, rfl, -, RS5, hb5⟩
    have B5 := B4.trans (hb5.mono B4.size)
    have RM5 := Lib.hid (RS4.out.below hb5)
    go_wp2_with fail
    refine (G1.out w5 (HH.out w5 B5).1).mono ?_
    rintro e w6 ⟨rfl, hb6⟩
    have B6 := B5.trans (hb6.mono B5.size)
    go_wp2_with fail
    refine (G2.out w6 (HH.out w6 B6).1).mono ?_
    rintro e w7 ⟨rfl, hb7⟩
    have B7 := B6.trans (hb7.mono B6.size)
    go_wp2_with fail
    refine (G3.out w7 (HH.out w7 B7).2.1).mono ?_
    rintro e w8 ⟨rfl, hb8⟩
    have B8 := B7.trans (hb8.mono B7.size)
    go_wp2_with fail
    refine (G4.out w8 (HH.out w8 B8).2.1).mono ?_
    rintro e w9 ⟨rfl, hb9⟩
    have B9 := B8.trans (hb9.mono B8.size)
    have hb59 := hb6.trans ((hb7.trans ((hb8.trans (hb9.mono hb8.size)).mono hb7.size)).mono hb6.size)
    go_wp2_with fail
    refine (SM2.out _ _ _ _ w9 (RM5.out.below hb59) (RS5.out.below hb59)).mono ?_
    rintro e w10 ⟨rfl, hb10⟩
    have B10 := B9.trans (hb10.mono B9.size)
    have H3' := (HH.out w10 B10).2.2.2
    clear RM5 RS5 RS4 hb4 hb5 hb6 hb7 hb8 hb9 hb10 hb59 B3 B4 B5 B6 B7 B8 B9 M1 M2 G1 G2 G3 G4 SM2 dl da de
    obtain ⟨m, hm, hm1, hm2⟩ : ∃ m : Nat, min (at_.length : Int) 12 = (m : Int) ∧ m ≤ at_.length ∧ m ≤ 12 := ⟨min at_.length 12, by omega, by omega, by omega⟩
    go_wp2_with (refine wp_sliceK elPoint H3' m3 0 m (Nat.zero_le _) hm1 rfl _ _ _ rfl rfl rfl rfl ?_; intro ad hr; simp only [Nat.sub_zero, List.drop_zero] at hr ⊢)
    have hPl : (at_.take m).length = m := by simp; omega
    have HPR := Lib.hid hr
    have HM := Lib.hid hm
    clear hr H3' hm
    generalize at_.take m = P at *
    subst hPl
    go_loopw [101] (fun kv wr => ∃ k : Nat, kv = .int .i64 k ∧ k ≤ P.length ∧ Below w10.heap.size w10 wr) (fun kv _ => P.length - (intOf kv).toNat)
    case atStart => exact ⟨0, rfl, Nat.zero_le _, Below.refl _ _⟩
    case round =>
      obtain ⟨k, rfl, hk, hb⟩ := hrel
      by_cases hkl : k < P.length
      · have BR := B10.trans (hb.mono B10.size)
        obtain ⟨b, off, ea, hbl, hcs⟩ := (HPR.out.below hb).get (by omega)
        have x0 := hcs k hkl 0 (by omega)
        have x1 := hcs k hkl 1 (by omega)
        have x2 := hcs k hkl 2 (by omega)
        simp only [ePt, List.getElem?_cons_zero, List.getElem?_cons_succ, Nat.add_zero] at x0 x1 x2
        have BEK := BE.out P[k]
        have REK := RE.out P[k]
        have EA := Lib.hid ea
        clear hcs ea
        generalize P[k] = r at *
        obtain ⟨rx, ry, ri⟩ := r
        simp only at x0 x1 x2
        have hkl2 : (k : Int) < (P.length : Int) := by omega
        obtain rfl := EA.out
        clear EA
        have BA : Below wr.heap.size wr (wr.alloc (.cells #[.int .i64 rx, .int .i64 ry, .int .u32 ri] 33)) := (Below.refl _ _).alloc (Nat.le_refl _) _
        have rs := objPt_cells wr (rx, ry, ri) _ rfl
        simp only [objPt] at rs
        obtain ⟨r0, r1, r2⟩ := rs
        have BRA := BR.trans (BA.mono BR.size)
        have hsz1 : wr.heap.size < (wr.alloc (.cells #[.int .i64 rx, .int .i64 ry, .int .u32 ri] 33)).heap.size := by simp
        generalize (btE A (rx, ry, ri)).1 = x at *
        generalize (btE A (rx, ry, ri)).2 = e3 at *
        have HBA := Lib.hid BA
        have HB := Lib.hid hb
        clear BA hb
        go_wp2_with fail
        refine (BEK _ (HH.out _ BRA).2.1).mono ?_
        rintro e w11 ⟨k1, rfl, hk1, hb11⟩
        have B11 := BRA.trans (hb11.mono BRA.size)
        have s0 := (hb11.cell (p := ⟨wr.heap.size, 0, none⟩) hsz1).trans r0
        have s1 := (hb11.cell (p := ⟨wr.heap.size, 1, none⟩) hsz1).trans r1
        have s2 := (hb11.cell (p := ⟨wr.heap.size, 2, none⟩) hsz1).trans r2
        clear r0 r1 r2 x0 x1 x2
        go_wp2_with fail
        refine (REK w11 (HH.out w11 B11).2.1).mono ?_
        rintro e w12 ⟨rfl, hb12⟩
        have B12 := HB.out.trans ((HBA.out.trans ((hb11.trans (hb12.mono hb11.size)).mono (Nat.le_of_lt hsz1))).mono HB.out.size)
        clear s0 s1 s2 hb11 hb12 B11 BRA hsz1
        have dx : (x != x) = false := by simp
        have dy : (e3 != e3) = false := by simp
        by_cases he : e3 = 0
        · subst he
          go_wp2
          go_roundw
          case rel => exact ⟨k + 1, by go_num, by omega, B12⟩
          case measure => simp [intOf]; omega
        · obtain rfl : k1 = 0 := by rcases hk1 with h | h; exact absurd h he; exact h
          have dz : (e3 != 0) = true := by simp [he]
          go_wp2
          go_roundw
          case rel => exact ⟨k + 1, by go_num, by omega, B12⟩
          case measure => simp [intOf]; omega
      · obtain rfl : k = P.length := by omega
        have B11 := B10.trans (hb.mono B10.size)
        go_wp2_with fail
        refine (AW.out wr).mono ?_
        rintro e w11 ⟨rfl, hb11⟩
        go_wp2_with fail
        go_ret
        exact ⟨rfl, B11.trans (hb11.mono B11.size)⟩

end Go.Proofs.Ytpebefcmloablaa
