/- The law BandAll, walked. -/
import Derived.Test.YthpgkldpbbajfaaGreatL10w
import Derived.Test.YthpgkldpbbajfaaGreatQ7
import Derived.Test.YthpgkldpbbajfaaGreatQ3
namespace Go.Proofs.YthpgkldpbbajfaaGreat
open Go.RowKit Go.Maps
attribute [local irreducible] wpQuiet
set_option linter.unusedSimpArgs false
set_option linter.unusedVariables false

theorem box_all {l : List Pt} (hf : ∀ p ∈ l, (Lit.int .i64 p.1).wf = true ∧ (Lit.int .i64 p.2.1).wf = true ∧ (Lit.int .u32 p.2.2).wf = true) : (hasB l (-9223372036854775808) 9223372036854775807 (-9223372036854775808) 9223372036854775807).length = l.length := by
  rw [hasB_len, List.filter_eq_self.2]
  intro p hp
  obtain ⟨h1, h2, -⟩ := hf p hp
  simp [Lit.wf, IntKind.min, IntKind.max, IntKind.signed, IntKind.bits] at h1 h2
  simp [inB]
  omega
/-- how many of the first j points stand at a place -/
def atN (l : List Pt) (x y : Int) (j : Nat) : Nat := ((l.take j).filter fun q => decide (q.1 = x ∧ q.2.1 = y)).length
theorem atN_zero (l : List Pt) (x y : Int) : atN l x y 0 = 0 := by simp [atN]
theorem atN_yes {l : List Pt} {x y : Int} {j : Nat} (hj : j < l.length) (h : l[j].1 = x ∧ l[j].2.1 = y) : atN l x y (j + 1) = atN l x y j + 1 := by
  unfold atN
  rw [List.take_succ_eq_append_getElem hj, List.filter_append]
  simp [h]
theorem atN_no {l : List Pt} {x y : Int} {j : Nat} (hj : j < l.length) (h : ¬ (l[j].1 = x ∧ l[j].2.1 = y)) : atN l x y (j + 1) = atN l x y j := by
  unfold atN
  rw [List.take_succ_eq_append_getElem hj, List.filter_append]
  simp only [List.filter_cons, List.filter_nil, List.length_append, h]
  simp
theorem atN_le (l : List Pt) (x y : Int) (j : Nat) : atN l x y j ≤ j := by
  unfold atN
  refine Nat.le_trans (List.length_filter_le _ _) ?_
  rw [List.length_take]; omega
theorem atN_all (l : List Pt) (x y : Int) : atN l x y l.length = (hasB l x x y y).length := by
  rw [hasB_len]; unfold atN
  rw [List.take_length]
  congr 1
  apply List.filter_congr
  intro q _
  simp only [inB, decide_eq_decide]
  omega
/-- how often a name stands in a list of names, up to a place -/
def nmN (N : List Int) (n : Int) (j : Nat) : Nat := (N.take j).count n
theorem nmN_zero (N : List Int) (n : Int) : nmN N n 0 = 0 := by simp [nmN]
theorem nmN_yes {N : List Int} {n : Int} {j : Nat} (hj : j < N.length) (h : N[j] = n) : nmN N n (j + 1) = nmN N n j + 1 := by
  unfold nmN
  rw [List.take_succ_eq_append_getElem hj, List.count_append, h]
  simp
theorem nmN_no {N : List Int} {n : Int} {j : Nat} (hj : j < N.length) (h : ¬ N[j] = n) : nmN N n (j + 1) = nmN N n j := by
  unfold nmN
  rw [List.take_succ_eq_append_getElem hj, List.count_append]
  simp [List.count_cons, h]
theorem nmN_le (N : List Int) (n : Int) (j : Nat) : nmN N n j ≤ j := by
  unfold nmN
  refine Nat.le_trans List.count_le_length ?_
  rw [List.length_take]; omega
theorem count_one {L : List Int} (h : L.Nodup) {a : Int} (ha : a ∈ L) : L.count a = 1 := by
  induction L with
  | nil => cases ha
  | cons b L ih =>
    rw [List.nodup_cons] at h
    by_cases e : b = a
    · subst e
      rw [List.count_cons_self, List.count_eq_zero.2 h.1]
    · rw [List.count_cons_of_ne e]
      exact ih h.2 (by rcases List.mem_cons.1 ha with h9 | h9; exact absurd h9.symm e; exact h9)
theorem nmN_all {l : List Pt} (hu : unl l = true) {p : Pt} (hp : p ∈ l) : nmN (hasB l p.1 p.1 p.2.1 p.2.1) p.2.2 (hasB l p.1 p.1 p.2.1 p.2.1).length = 1 := by
  unfold nmN
  rw [List.take_length]
  have hu' : (ids l).Nodup := by unfold unl at hu; simpa using hu
  unfold hasB
  unfold srtI
  rw [(List.mergeSort_perm _ _).count_eq]
  refine count_one (hu'.sublist (List.Sublist.map _ List.filter_sublist)) ?_
  refine List.mem_map_of_mem (List.mem_filter.2 ⟨hp, ?_⟩)
  simp [inB]

set_option maxRecDepth 100000 in
set_option maxHeartbeats 8000000 in
theorem wBandAll (a : Option Addr) (l : List Pt) (n c : Nat) (w : World) (hn : l.length = n) (h : RdK ePt 3 w a l) (hf : ∀ p ∈ l, (Lit.int .i64 p.1).wf = true ∧ (Lit.int .i64 p.2.1).wf = true ∧ (Lit.int .u32 p.2.2).wf = true) :
    Calls Tryz.prog 8 #[.slice a n c] w fun e w' => e = .returned (.bool true) ∧ Below w.heap.size w w' := by
  subst hn
  have hw : wfN l := fun p hp => (hf p hp).2.2
  have AW := Lib.hid (fun W => awake10 W)
  by_cases hlen : l.length ≤ 80
  · have dl : decide (80 < (l.length : Int)) = false := by simp; omega
    rcases Bool.eq_false_or_eq_true (unl l) with hu | hu
    · have cd := Lib.hid (bBuild a c l w h (by omega) hw hu)
      have BA := Lib.hid (box_all hf)
      have HR := Lib.hid h
      have AA := Lib.hid (fun x y => atN_all l x y)
      have OO := Lib.hid (fun p hp => nmN_all hu (p := p) hp)
      clear hw hf h hu
      go_enter Tryz.func8, Tryz.ntmps8
      go_wp2_with fail
      refine cd.out.mono ?_
      rintro e w1 ⟨tb, rfl, hT1, hb1⟩
      have HT1 := Lib.hid hT1
      have HB1 := Lib.hid hb1
      clear hT1 cd hb1
      go_wp2_with fail
      refine (bReport HT1.out (-9223372036854775808) 9223372036854775807 (-9223372036854775808) 9223372036854775807 0).mono ?_
      rintro e w2 ⟨v2, c2, rfl, -, hown2, hb2⟩
      obtain ⟨a2, k2, rfl, -, -, -⟩ := Rd.of_owns hown2
      rw [BA.out]
      have HT2 := Lib.hid (HT1.out.below hb2 HT1.out.hi_le)
      have HB2 := Lib.hid (HB1.out.trans (hb2.mono HB1.out.size))
      clear hown2 hb2 HT1 HB1 BA
      go_wp2
      go_loopw [42] (fun iv wr => ∃ (i : Nat), iv = .int .i64 i ∧ i ≤ l.length ∧ Hid (Below w2.heap.size w2 wr)) (fun iv _ => l.length - (intOf iv).toNat)
      case atStart => exact ⟨0, rfl, Nat.zero_le _, Lib.hid (Below.refl _ _)⟩
      case round =>
        obtain ⟨i, rfl, hi, HBI⟩ := hrel
        by_cases hil : i < l.length
        · have hb := HBI.out
          obtain ⟨wo, ewo⟩ : ∃ wo : World, wo = wr := ⟨_, rfl⟩
          subst ewo
          obtain ⟨b9, off9, ea, hbl, hcs⟩ := (HR.out.below (HB2.out.trans (hb.mono HB2.out.size))).get (by omega)
          have x0 := hcs i hil 0 (by omega)
          have x1 := hcs i hil 1 (by omega)
          have x2 := hcs i hil 2 (by omega)
          simp only [ePt, List.getElem?_cons_zero, List.getElem?_cons_succ, Nat.add_zero] at x0 x1 x2
          have O1 := Lib.hid (OO.out l[i] (List.getElem_mem hil))
          have EA := Lib.hid ea
          clear hcs ea
          generalize l[i] = p at *
          obtain ⟨p1, p2, p3⟩ := p
          simp only at x0 x1 x2 O1
          obtain rfl := EA.out
          clear EA
          have hil2 : (i : Int) < (l.length : Int) := by omega
          obtain ⟨w4, ew4⟩ : ∃ w4, w4 = wo.alloc (.cells #[.int .i64 p1, .int .i64 p2, .int .u32 p3] 34) := ⟨_, rfl⟩
          have b4 : Below wo.heap.size wo w4 := by rw [ew4]; exact (Below.refl _ _).alloc (Nat.le_refl _) _
          have X4 : w4.heap[wo.heap.size]? = some (obP (p1, p2, p3)) := by rw [ew4]; exact lit0 _ _
          have B4 := hb.trans (b4.mono hb.size)
          have EX := ew4.symm
          obtain ⟨y0, y1, y2⟩ := obP_cells X4
          simp only at y0 y1 y2
          clear ew4 b4 hb
          have XH := Lib.hid X4
          clear X4
          go_wp2_with fail
          have X4 := XH.out
          (try rw [EX])
          clear XH EX x0 x1 x2 y0 y1 y2
          refine (bReport (HT2.out.below B4 HT2.out.hi_le) p1 p1 p2 p2 0).mono ?_
          rintro e w5 ⟨v5, c5, rfl, -, hown5, hb5⟩
          obtain ⟨a5, k5, rfl, -, -, hr5⟩ := Rd.of_owns hown5
          have hg5 : (hasB l p1 p1 p2 p2).length ≤ 80 := by rw [hasB_len]; exact Nat.le_trans (List.length_filter_le _ _) hlen
          have A5 := Lib.hid (AA.out p1 p2)
          have HX5 := Lib.hid ((hb5.block _ (Array.getElem?_eq_some_iff.1 X4).1).trans X4)
          have HB5 := Lib.hid (B4.trans (hb5.mono B4.size))
          have HR5 := Lib.hid hr5
          clear hown5 hb5 hr5 B4 X4
          generalize hasB l p1 p1 p2 p2 = N at *
          generalize wo.heap.size = pa at *
          go_wp2
          go_loopw [11, 62] (fun mv jv wr => ∃ (j : Nat), jv = .int .i64 j ∧ j ≤ l.length ∧ mv = .int .i64 (atN l p1 p2 j) ∧ Hid (Below w5.heap.size w5 wr)) (fun _ jv _ => l.length - (intOf jv).toNat)
          case atStart => exact ⟨0, rfl, Nat.zero_le _, by rw [atN_zero]; rfl, Lib.hid (Below.refl _ _)⟩
          case round =>
            obtain ⟨j, rfl, hj, rfl, HBJ⟩ := hrel
            by_cases hjl : j < l.length
            · have hbj := HBJ.out
              obtain ⟨b8, off8, ea8, hbl8, hcs8⟩ := (HR.out.below (HB2.out.trans ((HB5.out.trans (hbj.mono HB5.out.size)).mono HB2.out.size))).get (by omega)
              have z0 := hcs8 j hjl 0 (by omega)
              have z1 := hcs8 j hjl 1 (by omega)
              have z2 := hcs8 j hjl 2 (by omega)
              simp only [ePt, List.getElem?_cons_zero, List.getElem?_cons_succ, Nat.add_zero] at z0 z1 z2
              obtain ⟨rfl, rfl⟩ : b9 = b8 ∧ off9 = off8 := by simpa using ea8
              have NY := Lib.hid (fun h => atN_yes (x := p1) (y := p2) hjl h)
              have NN := Lib.hid (fun h => atN_no (x := p1) (y := p2) hjl h)
              have hle := atN_le l p1 p2 j
              clear hcs8 ea8
              generalize l[j] = q at *
              obtain ⟨q1, q2, q3⟩ := q
              simp only at z0 z1 z2 NY NN
              have hjl2 : (j : Int) < (l.length : Int) := by omega
              have hXs := (Array.getElem?_eq_some_iff.1 HX5.out).1
              have hX6 := (hbj.block _ hXs).trans HX5.out
              obtain ⟨w6, ew6⟩ : ∃ w6, w6 = wr.alloc (.cells #[.int .i64 q1, .int .i64 q2, .int .u32 q3] 34) := ⟨_, rfl⟩
              have b6 : Below wr.heap.size wr w6 := by rw [ew6]; exact (Below.refl _ _).alloc (Nat.le_refl _) _
              have X6 : w6.heap[wr.heap.size]? = some (obP (q1, q2, q3)) := by rw [ew6]; exact lit0 _ _
              have hX7 := (b6.block _ (Array.getElem?_eq_some_iff.1 hX6).1).trans hX6
              have HB6 := Lib.hid (hbj.trans (b6.mono hbj.size))
              have EX := ew6.symm
              obtain ⟨y0, y1, y2⟩ := obP_cells X6
              obtain ⟨v0, v1, v2⟩ := obP_cells hX7
              simp only at y0 y1 y2 v0 v1 v2
              clear ew6 b6 hbj X6 hX6 hX7 hXs
              by_cases h1 : q1 = p1
              · have d1 : (q1 == p1) = true := by simp [h1]
                by_cases h2 : q2 = p2
                · have d2 : (q2 == p2) = true := by simp [h2]
                  have NY2 := Lib.hid (NY.out ⟨h1, h2⟩)
                  clear NY NN h1 h2
                  go_wp2
                  go_roundw
                  case rel => exact ⟨j + 1, by go_num, by omega, by rw [NY2.out]; go_num, HB6⟩
                  case measure => simp [intOf]; omega
                · have d2 : (q2 == p2) = false := by simp [h2]
                  have NY2 := Lib.hid (NN.out (fun h => h2 h.2))
                  clear NY NN h1 h2
                  go_wp2
                  go_roundw
                  case rel => exact ⟨j + 1, by go_num, by omega, by rw [NY2.out], HB6⟩
                  case measure => simp [intOf]; omega
              · have d1 : (q1 == p1) = false := by simp [h1]
                have NY2 := Lib.hid (NN.out (fun h => h1 h.1))
                clear NY NN h1
                go_wp2
                go_roundw
                case rel => exact ⟨j + 1, by go_num, by omega, by rw [NY2.out], HB6⟩
                case measure => simp [intOf]; omega
            · obtain rfl : j = l.length := by omega
              rw [A5.out] at *
              obtain ⟨w7, ew7⟩ : ∃ w7 : World, w7 = wr := ⟨_, rfl⟩
              subst ew7
              have HX7 := Lib.hid ((HBJ.out.block _ (Array.getElem?_eq_some_iff.1 HX5.out).1).trans HX5.out)
              have HR7 := Lib.hid (HR5.out.below HBJ.out)
              have HB7 := Lib.hid (HB5.out.trans (HBJ.out.mono HB5.out.size))
              clear HX5 HR5 HB5 HBJ
              go_wp2
              go_loopw [14, 83] (fun mv jv wr => ∃ (j : Nat), jv = .int .i64 j ∧ j ≤ N.length ∧ mv = .int .i64 (nmN N p3 j) ∧ wr = w7) (fun _ jv _ => N.length - (intOf jv).toNat)
              case atStart => exact ⟨0, rfl, Nat.zero_le _, by rw [nmN_zero]; rfl, rfl⟩
              case round =>
                obtain ⟨j, rfl, hj, rfl, rfl⟩ := hrel
                by_cases hjl : j < N.length
                · obtain ⟨b8, off8, ea8, hbl8, hcs8⟩ := HR7.out.get (by omega)
                  have z0 := hcs8 j hjl
                  have NY := Lib.hid (fun h => nmN_yes (n := p3) hjl h)
                  have NN := Lib.hid (fun h => nmN_no (n := p3) hjl h)
                  have hle := nmN_le N p3 j
                  have EA := Lib.hid ea8
                  clear hcs8 ea8
                  generalize N[j] = q at *
                  obtain rfl := EA.out
                  clear EA
                  have hjl2 : (j : Int) < (N.length : Int) := by omega
                  obtain ⟨v0, v1, v2⟩ := obP_cells HX7.out
                  simp only at v0 v1 v2
                  by_cases h1 : q = p3
                  · have d1 : (q == p3) = true := by simp [h1]
                    have NY2 := Lib.hid (NY.out h1)
                    clear NY NN h1
                    go_wp2
                    go_roundw
                    case rel => exact ⟨j + 1, by go_num, by omega, by rw [NY2.out]; go_num, trivial⟩
                    case measure => simp [intOf]; omega
                  · have d1 : (q == p3) = false := by simp [h1]
                    have NY2 := Lib.hid (NN.out h1)
                    clear NY NN h1
                    go_wp2
                    go_roundw
                    case rel => exact ⟨j + 1, by go_num, by omega, by rw [NY2.out], trivial⟩
                    case measure => simp [intOf]; omega
                · obtain rfl : j = N.length := by omega
                  rw [O1.out]
                  go_wp2
                  go_roundw
                  case rel => exact ⟨i + 1, by go_num, by omega, HB7⟩
                  case measure => simp [intOf]; omega
        · obtain rfl : i = l.length := by omega
          have HBR := Lib.hid (HB2.out.trans (HBI.out.mono HB2.out.size))
          go_wp2_with (go_at_call 34; refine (AW.out _).mono ?_; rintro e w9 ⟨rfl, hb9⟩)
          go_ret
          exact ⟨rfl, HBR.out.trans (hb9.mono HBR.out.size)⟩
    · have cd := Lib.hid (band_build_bad a c l w h (by omega) hw hu)
      clear hw hu hf
      go_enter Tryz.func8, Tryz.ntmps8
      go_wp2_with (first
        | (go_at_call 25; refine cd.out.mono ?_; rintro e w2 ⟨rfl, hb2⟩)
        | (go_at_call 34; refine (AW.out _).mono ?_; rintro e w3 ⟨rfl, hb3⟩))
      go_ret
      exact ⟨rfl, hb2.trans (hb3.mono hb2.size)⟩
  · have dl : decide (80 < (l.length : Int)) = true := by simp; omega
    go_enter Tryz.func8, Tryz.ntmps8
    go_wp2_with (go_at_call 34; refine (AW.out _).mono ?_; rintro e w3 ⟨rfl, hb3⟩)
    go_ret
    exact ⟨rfl, hb3⟩
end Go.Proofs.YthpgkldpbbajfaaGreat
