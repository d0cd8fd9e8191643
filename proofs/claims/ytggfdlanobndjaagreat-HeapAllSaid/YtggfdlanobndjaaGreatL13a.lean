/- The law HeapAll, walked. -/
import Derived.Test.YtggfdlanobndjaaGreatL13w
import Derived.Test.YtggfdlanobndjaaGreatQ7
import Derived.Test.YtggfdlanobndjaaGreatQ3
import Derived.Laws.Tables
import Derived.Laws.Rows
import Derived.Laws.CopyOwn
import Derived.Great.BuildSlice
namespace Go.Proofs.YtggfdlanobndjaaGreat
open Go.RowKit Go.Maps
attribute [local irreducible] wpQuiet
set_option linter.unusedSimpArgs false
set_option linter.unusedVariables false

/-! ### The plain law -/
theorem idsInj : ∀ {l : List Pt}, (ids l).Nodup → ∀ p ∈ l, ∀ q ∈ l, p.2.2 = q.2.2 → p = q
  | [], _, p, hp, _, _, _ => absurd hp List.not_mem_nil
  | a :: l, hu, p, hp, q, hq, e => by
    unfold ids at hu
    rw [List.map_cons, List.nodup_cons] at hu
    rcases List.mem_cons.1 hp with h1 | h1 <;> rcases List.mem_cons.1 hq with h2 | h2
    · rw [h1, h2]
    · exact absurd (by rw [← h1, e]; exact List.mem_map_of_mem h2) hu.1
    · exact absurd (by rw [← h2, ← e]; exact List.mem_map_of_mem h1) hu.1
    · exact idsInj hu.2 p h1 q h2 e
theorem mem_has3 {l L : List Pt} (hu : (ids l).Nodup) (hs : ∀ r ∈ L, r ∈ l) {p : Pt} (hp : p ∈ l) : (p.2.2 ∈ has3 L p.1 p.1 p.2.1) ↔ p ∈ L := by
  unfold has3 srtI ids
  rw [(List.mergeSort_perm _ _).mem_iff, List.mem_map]
  constructor
  · rintro ⟨r, hr, e⟩
    obtain ⟨hr, -⟩ := List.mem_filter.1 hr
    exact idsInj hu r (hs r hr) p hp e ▸ hr
  · exact fun h => ⟨p, List.mem_filter.2 ⟨h, by simp [in3]⟩, rfl⟩
theorem mem_take_one {l : List Pt} {j : Nat} (hj : j < l.length) {r : Pt} : r ∈ l.take (j + 1) ↔ r ∈ l.take j ∨ r = l[j] := by
  rw [List.take_succ_eq_append_getElem hj, List.mem_append, List.mem_singleton]
/-- the lowest one so far -/
def LowI (L : List Pt) (x1 x2 : Int) (T : List Pt) (f : Bool) (q : Pt) : Prop :=
  (f = false → ∀ r ∈ T, r ∈ L → ¬ (x1 ≤ r.1 ∧ r.1 ≤ x2)) ∧ (f = true → (q ∈ T ∧ q ∈ L ∧ x1 ≤ q.1 ∧ q.1 ≤ x2) ∧ ∀ r ∈ T, r ∈ L → x1 ≤ r.1 → r.1 ≤ x2 → q.2.1 ≤ r.2.1)
theorem LowI.zero (L : List Pt) (x1 x2 : Int) (q : Pt) : LowI L x1 x2 [] false q := ⟨fun _ r h => absurd h List.not_mem_nil, fun h => by cases h⟩
theorem LowI.skip {L T T' : List Pt} {x1 x2 : Int} {f : Bool} {q p : Pt} (H : LowI L x1 x2 T f q) (hT : ∀ r, r ∈ T' ↔ r ∈ T ∨ r = p) (h : p ∈ L → x1 ≤ p.1 → p.1 ≤ x2 → f = true ∧ q.2.1 ≤ p.2.1) : LowI L x1 x2 T' f q := by
  refine ⟨fun hf r hr hL hc => ?_, fun hf => ⟨⟨(hT q).2 (.inl (H.2 hf).1.1), (H.2 hf).1.2⟩, fun r hr hL h1 h2 => ?_⟩⟩
  · rcases (hT r).1 hr with hr | rfl
    · exact H.1 hf r hr hL hc
    · have := (h hL hc.1 hc.2).1
      rw [hf] at this
      cases this
  · rcases (hT r).1 hr with hr | rfl
    · exact (H.2 hf).2 r hr hL h1 h2
    · exact (h hL h1 h2).2
theorem LowI.take {L T T' : List Pt} {x1 x2 : Int} {f : Bool} {q p : Pt} (H : LowI L x1 x2 T f q) (hT : ∀ r, r ∈ T' ↔ r ∈ T ∨ r = p) (hp : p ∈ L) (h1 : x1 ≤ p.1) (h2 : p.1 ≤ x2) (h : f = true → p.2.1 < q.2.1) : LowI L x1 x2 T' true p := by
  refine ⟨fun hf => (by cases hf), fun _ => ⟨⟨(hT p).2 (.inr rfl), hp, h1, h2⟩, fun r hr hL h3 h4 => ?_⟩⟩
  rcases (hT r).1 hr with hr | rfl
  · rcases Bool.eq_false_or_eq_true f with hf | hf
    · have := (H.2 hf).2 r hr hL h3 h4
      have := h hf
      omega
    · exact absurd ⟨h3, h4⟩ (H.1 hf r hr hL)
  · exact Int.le_refl _
theorem any_pos {L : List Pt} {x1 x2 y : Int} : decide (0 < (L.filter (in3 x1 x2 y)).length) = decide (∃ r ∈ L, x1 ≤ r.1 ∧ r.1 ≤ x2 ∧ r.2.1 ≤ y) := by
  rw [decide_eq_decide, List.length_pos_iff_exists_mem]
  constructor
  · rintro ⟨r, hr⟩
    obtain ⟨h1, h2⟩ := List.mem_filter.1 hr
    exact ⟨r, h1, by simpa [in3] using h2⟩
  · rintro ⟨r, h1, h2⟩
    exact ⟨r, List.mem_filter.2 ⟨h1, by simpa [in3] using h2⟩⟩
section
variable {l L : List Pt} {x1 x2 : Int} {f : Bool} {q : Pt} (H : LowI L x1 x2 l f q) (hs : ∀ r ∈ L, r ∈ l)
include H hs
theorem LowI.any (hy : ∀ r ∈ l, r.2.1 ≤ 9223372036854775807) : decide (0 < (L.filter (in3 x1 x2 9223372036854775807)).length) = f := by
  rw [any_pos]
  rcases Bool.eq_false_or_eq_true f with hf | hf
  · rw [hf, decide_eq_true_eq]
    obtain ⟨⟨h1, h2, h3, h4⟩, -⟩ := H.2 hf
    exact ⟨q, h2, h3, h4, hy q h1⟩
  · rw [hf, decide_eq_false_iff_not]
    rintro ⟨r, h1, h2, h3, -⟩
    exact H.1 hf r (hs r h1) h1 ⟨h2, h3⟩
omit hs in
theorem LowI.has (hf : f = true) : decide (0 < (L.filter (in3 x1 x2 q.2.1)).length) = true := by
  rw [any_pos, decide_eq_true_eq]
  obtain ⟨⟨h1, h2, h3, h4⟩, -⟩ := H.2 hf
  exact ⟨q, h2, h3, h4, Int.le_refl _⟩
theorem LowI.left (hf : f = true) : ∀ r ∈ L.filter (fun r => decide (r ≠ q)), x1 ≤ r.1 → r.1 ≤ x2 → q.2.1 ≤ r.2.1 := fun r hr h1 h2 => by
  have hr' := (List.mem_filter.1 hr).1
  exact (H.2 hf).2 r (hs r hr') hr' h1 h2
theorem LowI.none (hf : f = true) : decide (0 < ((L.filter (fun r => decide (r ≠ q))).filter (in3 x1 x2 (q.2.1 - 1))).length) = false := by
  rw [any_pos, decide_eq_false_iff_not]
  rintro ⟨r, h1, h2, h3, h4⟩
  have := LowI.left H hs hf r h1 h2 h3
  omega
end
theorem KpS.setRow {S : Nat → Prop} {w w' : World} (K : KpS S w w') {g : Nat} (hg : S g) (cs : Array Value) : KpS S w (w'.setRow g cs) :=
  ⟨K.os, K.tape, K.output, by have := K.size; simpa [World.setRow] using this, fun k hk hn => (setRow_other _ _ _ _ (by rintro rfl; exact hn hg)).trans (K.block k hk hn)⟩

/-! ### has -/
set_option maxRecDepth 100000 in
set_option maxHeartbeats 4000000 in
theorem has13 (a : Option Addr) (l : List Int) (n c : Nat) (x : Int) (w : World) (hn : l.length = n) (h : Rd (.int .u32) w a l) (hl : n ≤ 1000000) :
    Calls Tryz.prog 23 #[.slice a n c, .int .u32 x] w fun e w' => e = .returned (.bool (decide (x ∈ l))) ∧ w' = w := by
  subst hn
  have HR := Lib.hid h
  clear h
  generalize hr : decide (x ∈ l) = r
  have HRR := Lib.hid hr
  clear hr
  go_enter Tryz.func23, Tryz.ntmps23
  go_wp2
  go_loopw [9] (fun iv wr => ∃ k : Nat, iv = .int .i64 k ∧ k ≤ l.length ∧ wr = w ∧ Hid (x ∉ l.take k)) (fun iv _ => l.length - (intOf iv).toNat)
  case atStart => exact ⟨0, rfl, Nat.zero_le _, rfl, Lib.hid (by simp)⟩
  case round =>
    obtain ⟨k, rfl, hk, rfl, INV⟩ := hrel
    by_cases hlt : k < l.length
    · obtain ⟨b, off, ea, hbl, hcs⟩ := HR.out.get (by omega)
      have x0 := hcs k hlt
      have hkl : (k : Int) < (l.length : Int) := by omega
      have HY : Hid (l[k] = x → r = true) := fun he => by rw [← HRR.out, decide_eq_true_eq, ← he]; exact List.getElem_mem hlt
      have HX : Hid (l[k] ≠ x → x ∉ l.take (k + 1)) := fun he h9 => by
        rw [List.take_succ_eq_append_getElem hlt, List.mem_append] at h9
        rcases h9 with h9 | h9
        · exact INV.out h9
        · exact he (List.mem_singleton.1 h9).symm
      have EA := Lib.hid ea
      clear hcs ea
      generalize l[k] = px at *
      obtain rfl := EA.out
      clear EA
      by_cases h0 : px = x
      · have d0 : (px == x) = true := by simp [h0]
        have hr := HY.out h0
        subst hr
        clear h0 HY HX HRR INV
        go_wp2
        go_ret
        exact ⟨rfl, rfl⟩
      · have d0 : (px == x) = false := by simp [h0]
        have I2 := Lib.hid (HX.out h0)
        clear h0 HY HX INV
        go_wp2
        go_roundw
        case rel => exact ⟨k + 1, by go_num, by omega, trivial, I2⟩
        case measure => simp [intOf]; omega
    · obtain rfl : k = l.length := by omega
      have e1 : r = false := by
        rw [← HRR.out, decide_eq_false_iff_not]
        have := INV.out
        rwa [List.take_length] at this
      subst e1
      clear INV HRR
      go_wp2
      go_ret
      exact ⟨rfl, rfl⟩

/-! ### The walk -/
set_option maxRecDepth 100000 in
set_option maxHeartbeats 8000000 in
theorem wHeapAll (a : Option Addr) (l : List Pt) (n c : Nat) (X1 X2 : Int) (w : World) (hn : l.length = n) (h : RdK ePt 3 w a l) (hf : ∀ p ∈ l, (Lit.int .i64 p.1).wf = true ∧ (Lit.int .i64 p.2.1).wf = true ∧ (Lit.int .u32 p.2.2).wf = true) :
    Calls Tryz.prog 5 #[.slice a n c, .int .i64 X1, .int .i64 X2] w fun e w' => e = .returned (.bool true) ∧ Below w.heap.size w w' := by
  subst hn
  have hw : wfN l := fun p hp => (hf p hp).2.2
  have AW := Lib.hid (fun W => awake13 W)
  by_cases hlen : l.length ≤ 60
  · have dl : decide (60 < (l.length : Int)) = false := by simp; omega
    rcases Bool.eq_false_or_eq_true (unl l) with hu | hu
    · have cd := Lib.hid (hBuild a c l w h (by omega) hw hu)
      have HU := Lib.hid (show (ids l).Nodup by unfold unl at hu; simpa using hu)
      have HR := Lib.hid h
      have HYY := Lib.hid (show ∀ r ∈ l, -9223372036854775808 ≤ r.2.1 ∧ r.2.1 ≤ 9223372036854775807 from fun p hp => by
        obtain ⟨-, h2, -⟩ := hf p hp
        simp [Lit.wf, IntKind.min, IntKind.max, IntKind.signed, IntKind.bits] at h2
        omega)
      clear hw hf h hu
      go_enter Tryz.func5, Tryz.ntmps5
      go_wp2_with fail
      refine cd.out.mono ?_
      rintro e w1 ⟨tb, rfl, T1, hb1⟩
      have HT1 := Lib.hid T1
      have HB1 := Lib.hid hb1
      have hs01 := hb1.size
      clear T1 hb1 cd
      go_wp2
      go_loopw [9, 36] (fun lv iv wr => ∃ (i : Nat) (z : Int) (L : List Pt), iv = .int .i64 i ∧ i ≤ l.length ∧ lv = .int .i64 z ∧ Hid (HepAt wr w.heap.size w1.heap.size tb l.length L) ∧ Hid (∀ r ∈ L, r ∈ l) ∧ Hid (∀ r ∈ L, X1 ≤ r.1 → r.1 ≤ X2 → z ≤ r.2.1) ∧ Hid (Below w.heap.size w wr) ∧ w1.heap.size ≤ wr.heap.size) (fun _ iv _ => l.length - (intOf iv).toNat)
      case atStart => exact ⟨0, -9223372036854775808, l, rfl, Nat.zero_le _, rfl, HT1, Lib.hid (fun r h => h), Lib.hid (fun r h _ _ => (HYY.out r h).1), HB1, Nat.le_refl _⟩
      case round =>
        obtain ⟨i, z, L, rfl, hi, rfl, HT, HS, HZ, HBR, hsr⟩ := hrel
        by_cases hil : i < l.length
        · have hil2 : (i : Int) < (l.length : Int) := by omega
          have few := HT.out.few2
          obtain ⟨w2, ew2⟩ : ∃ w2, w2 = wr.alloc (.cells #[.int .i64 0, .int .i64 0, .int .u32 0] 34) := ⟨_, rfl⟩
          have b2 : Below wr.heap.size wr w2 := by rw [ew2]; exact (Below.refl _ _).alloc (Nat.le_refl _) _
          have X2_ : w2.heap[wr.heap.size]? = some (obP (0, 0, 0)) := by rw [ew2]; exact lit0 _ _
          have HX2 := Lib.hid X2_
          have HT2 := Lib.hid (HT.out.below b2 HT.out.hi_le)
          have HB2 := Lib.hid (HBR.out.trans (b2.mono HBR.out.size))
          have hs2 : wr.heap.size < w2.heap.size := (Array.getElem?_eq_some_iff.1 X2_).1
          have EW := Lib.hid ew2
          clear ew2 X2_ b2 HT HBR
          go_upto_region 10 with fail
          rw [← EW.out]
          clear EW
          generalize wr.heap.size = lb at *
          go_wp2
          go_loopw [11, 41] (fun fv jv wi => ∃ (j : Nat) (f : Bool) (q : Pt), jv = .int .i64 j ∧ j ≤ l.length ∧ fv = .bool f ∧ Hid (LowI L X1 X2 (l.take j) f q) ∧ Hid (wi.heap[lb]? = some (obP q)) ∧ Hid (KpS (fun k => k = lb) w2 wi)) (fun _ jv _ => l.length - (intOf jv).toNat)
          case atStart => exact ⟨0, false, (0, 0, 0), rfl, Nat.zero_le _, rfl, Lib.hid (by rw [List.take_zero]; exact LowI.zero _ _ _ _), HX2, Lib.hid (KpS.refl _ _)⟩
          case round =>
            obtain ⟨j, f, q, rfl, hj, rfl, HL, HX, HK⟩ := hrel
            by_cases hjl : j < l.length
            · have hjl2 : (j : Int) < (l.length : Int) := by omega
              have HBI := Lib.hid (HB2.out.trans (HK.out.toBelow HB2.out.size (fun k h => by subst h; omega)))
              obtain ⟨b9, off9, ea, hbl, hcs⟩ := (HR.out.below HBI.out).get (by omega)
              have x0 := hcs j hjl 0 (by omega)
              have x1 := hcs j hjl 1 (by omega)
              have x2 := hcs j hjl 2 (by omega)
              simp only [ePt, List.getElem?_cons_zero, List.getElem?_cons_succ, Nat.add_zero] at x0 x1 x2
              have HMH := Lib.hid (show decide (l[j].2.2 ∈ has3 L l[j].1 l[j].1 l[j].2.1) = decide (l[j] ∈ L) by rw [decide_eq_decide]; exact mem_has3 HU.out HS.out (List.getElem_mem hjl))
              have HMT := Lib.hid (fun r => mem_take_one (r := r) hjl)
              have EA := Lib.hid ea
              clear hcs ea
              generalize l[j] = p at *
              obtain ⟨p1, p2, p3⟩ := p
              simp only at x0 x1 x2 HMH
              obtain rfl := EA.out
              clear EA
              obtain ⟨w3, ew3⟩ : ∃ w3, w3 = wr.alloc (.cells #[.int .i64 p1, .int .i64 p2, .int .u32 p3] 34) := ⟨_, rfl⟩
              have b3 : Below wr.heap.size wr w3 := by rw [ew3]; exact (Below.refl _ _).alloc (Nat.le_refl _) _
              have X3_ : w3.heap[wr.heap.size]? = some (obP (p1, p2, p3)) := by rw [ew3]; exact lit0 _ _
              have hlbi : lb < wr.heap.size := (Array.getElem?_eq_some_iff.1 HX.out).1
              have XL3 := (b3.block lb hlbi).trans HX.out
              have HK3 := Lib.hid (HK.out.below b3)
              have HT3 := Lib.hid ((HT2.out.kept HK.out (fun k h1 h2 h3 => by subst h3; omega)).below b3 (Nat.le_trans HT2.out.hi_le HK.out.size))
              have EX := ew3.symm
              obtain ⟨y0, y1, y2⟩ := obP_cells X3_
              simp only at y0 y1 y2
              have HX3 := Lib.hid X3_
              have HXL3 := Lib.hid XL3
              have hpb : wr.heap.size < w3.heap.size := (Array.getElem?_eq_some_iff.1 X3_).1
              have hne : lb ≠ wr.heap.size := by omega
              clear ew3 b3 X3_ XL3 HX HK HBI
              go_wp2_with fail
              (try rw [EX])
              clear EX x0 x1 x2 y0 y1 y2
              generalize wr.heap.size = pb at *
              refine (hThree HT3.out p1 p1 p2).mono ?_
              rintro e w4 ⟨v4, c4, rfl, -, hown4, hb4⟩
              obtain ⟨a4, k4, rfl, -, -, hr4⟩ := Rd.of_owns hown4
              have hgN : (has3 L p1 p1 p2).length ≤ 20000 := by rw [has3_len]; exact Nat.le_trans (List.length_filter_le _ _) (by omega)
              have X4_ := (hb4.block pb hpb).trans HX3.out
              have XL4 := (hb4.block lb (by omega)).trans HXL3.out
              have HK4 := Lib.hid (HK3.out.below hb4)
              have CH := Lib.hid (has13 a4 (has3 L p1 p1 p2) _ k4 p3 w4 rfl hr4 (by omega))
              rw [HMH.out] at CH
              obtain ⟨y0, y1, y2⟩ := obP_cells X4_
              obtain ⟨v0, v1, v2⟩ := obP_cells XL4
              obtain ⟨q1, q2, q3⟩ := q
              simp only at y0 y1 y2 v0 v1 v2
              have HX4 := Lib.hid X4_
              have HXL4 := Lib.hid XL4
              clear hown4 hr4 hb4 X4_ XL4 HX3 HXL3 HK3 HT3 HMH
              generalize has3 L p1 p1 p2 = N at *
              have skip : (((p1, p2, p3) : Pt) ∈ L → X1 ≤ p1 → p1 ≤ X2 → f = true ∧ q2 ≤ p2) → Hid (LowI L X1 X2 (l.take (j + 1)) f (q1, q2, q3)) := fun h9 => HL.out.skip HMT.out h9
              have tk : ((p1, p2, p3) : Pt) ∈ L → X1 ≤ p1 → p1 ≤ X2 → (f = true → p2 < q2) → Hid (LowI L X1 X2 (l.take (j + 1)) true (p1, p2, p3)) := fun h1 h2 h3 h4 => HL.out.take HMT.out h1 h2 h3 h4
              clear HL HMT
              by_cases hr1 : X1 ≤ p1
              · have d1 : decide (X1 ≤ p1) = true := by simp [hr1]
                by_cases hr2 : p1 ≤ X2
                · have d2 : decide (p1 ≤ X2) = true := by simp [hr2]
                  by_cases hh : f = true ∧ ¬ p2 < q2
                  · obtain ⟨rfl, hh2⟩ := hh
                    have d3 : decide (p2 < q2) = false := by simp; omega
                    have S9 := Lib.hid (skip (fun _ _ _ => ⟨rfl, by omega⟩))
                    clear skip tk
                    go_wp2
                    exact ⟨⟨j + 1, _, _, by go_num, by omega, rfl, S9.out, HXL4, HK4⟩, by simp [intOf]; omega⟩
                  · have key : ∀ g : Bool, g = (!f || decide (p2 < q2)) → g = true := fun g e => by
                      rw [e]
                      rcases Bool.eq_false_or_eq_true f with hf | hf
                      · have : p2 < q2 := Classical.byContradiction fun h9 => hh ⟨hf, h9⟩
                        simp [hf, this]
                      · simp [hf]
                    have d3 := key _ rfl
                    by_cases hm : ((p1, p2, p3) : Pt) ∈ L
                    · have S9 := Lib.hid (tk hm hr1 hr2 (fun hf => Classical.byContradiction fun h9 => hh ⟨hf, h9⟩))
                      have dm : decide (((p1, p2, p3) : Pt) ∈ L) = true := by simp [hm]
                      rw [dm] at CH
                      have K9 := Lib.hid (HK4.out.setRow rfl #[.int .i64 p1, .int .i64 p2, .int .u32 p3])
                      have X9 := Lib.hid (setRow_heap w4 lb _ #[.int .i64 p1, .int .i64 p2, .int .u32 p3] _ _ HXL4.out)
                      clear skip tk hm dm key
                      rcases Bool.eq_false_or_eq_true f with rfl | rfl
                      · have hq2 : p2 < q2 := Classical.byContradiction fun h9 => hh ⟨rfl, h9⟩
                        have d4 : decide (p2 < q2) = true := by simp [hq2]
                        clear d3 hh
                        go_wp2_with (first
                          | (go_at_call 23; refine CH.out.mono ?_; rintro e w5 ⟨rfl, rfl⟩)
                          | (refine wpList_store_rowTo rfl 34 (.tmp 10) (.tmp 83) rfl rfl lb #[.int .i64 p1, .int .i64 p2, .int .u32 p3] rfl rfl _ _ HXL4.out (by kernel_rfl) rfl (by simp [Value.oneCell']) ?_))
                        exact ⟨⟨j + 1, _, _, by go_num, by omega, rfl, S9.out, X9, K9⟩, by simp [intOf]; omega⟩
                      · clear d3 hh
                        go_wp2_with (first
                          | (go_at_call 23; refine CH.out.mono ?_; rintro e w5 ⟨rfl, rfl⟩)
                          | (refine wpList_store_rowTo rfl 34 (.tmp 10) (.tmp 83) rfl rfl lb #[.int .i64 p1, .int .i64 p2, .int .u32 p3] rfl rfl _ _ HXL4.out (by kernel_rfl) rfl (by simp [Value.oneCell']) ?_))
                        exact ⟨⟨j + 1, _, _, by go_num, by omega, rfl, S9.out, X9, K9⟩, by simp [intOf]; omega⟩
                    · have S9 := Lib.hid (skip (fun h9 => absurd h9 hm))
                      have dm : decide (((p1, p2, p3) : Pt) ∈ L) = false := by simp [hm]
                      rw [dm] at CH
                      clear skip tk hm dm key
                      rcases Bool.eq_false_or_eq_true f with rfl | rfl
                      · have hq2 : p2 < q2 := Classical.byContradiction fun h9 => hh ⟨rfl, h9⟩
                        have d4 : decide (p2 < q2) = true := by simp [hq2]
                        clear d3 hh
                        go_wp2_with (go_at_call 23; refine CH.out.mono ?_; rintro e w5 ⟨rfl, rfl⟩)
                        exact ⟨⟨j + 1, _, _, by go_num, by omega, rfl, S9.out, HXL4, HK4⟩, by simp [intOf]; omega⟩
                      · clear d3 hh
                        go_wp2_with (go_at_call 23; refine CH.out.mono ?_; rintro e w5 ⟨rfl, rfl⟩)
                        exact ⟨⟨j + 1, _, _, by go_num, by omega, rfl, S9.out, HXL4, HK4⟩, by simp [intOf]; omega⟩
                · have d2 : decide (p1 ≤ X2) = false := by simp; omega
                  have S9 := Lib.hid (skip (fun _ _ h9 => absurd h9 hr2))
                  clear skip tk
                  go_wp2
                  exact ⟨⟨j + 1, _, _, by go_num, by omega, rfl, S9.out, HXL4, HK4⟩, by simp [intOf]; omega⟩
              · have d1 : decide (X1 ≤ p1) = false := by simp; omega
                have S9 := Lib.hid (skip (fun _ h9 _ => absurd h9 hr1))
                clear skip tk
                go_wp2
                exact ⟨⟨j + 1, _, _, by go_num, by omega, rfl, S9.out, HXL4, HK4⟩, by simp [intOf]; omega⟩
            · obtain rfl : j = l.length := by omega
              have HL2 := HL.out
              rw [List.take_length] at HL2
              have HLX := Lib.hid HL2
              have HAN := Lib.hid (HL2.any HS.out (fun r hr => (HYY.out r hr).2))
              have HB3 := Lib.hid (HB2.out.trans (HK.out.toBelow HB2.out.size (fun k h => by subst h; omega)))
              have HT3 := Lib.hid (HT2.out.kept HK.out (fun k h1 h2 h3 => by subst h3; omega))
              have hs3 : w1.heap.size ≤ wr.heap.size := by have := HK.out.size; omega
              have hlb3 : lb < wr.heap.size := (Array.getElem?_eq_some_iff.1 HX.out).1
              clear HL HL2 HK HB2 HT2
              obtain ⟨w3, ew3⟩ : ∃ w3 : World, w3 = wr := ⟨_, rfl⟩
              subst ew3
              go_wp2_with fail
              refine (hAny HT3.out X1 X2 9223372036854775807).mono ?_
              rintro e w4 ⟨⟨c4, rfl, -⟩, hb4⟩
              rw [HAN.out]
              have HT4 := Lib.hid (HT3.out.below hb4 HT3.out.hi_le)
              have HB4 := Lib.hid (HB3.out.trans (hb4.mono HB3.out.size))
              have HX4 := Lib.hid ((hb4.block lb hlb3).trans HX.out)
              have hs4 : w1.heap.size ≤ w4.heap.size := Nat.le_trans hs3 hb4.size
              have hlb4 : lb < w4.heap.size := Nat.lt_of_lt_of_le hlb3 hb4.size
              clear hb4 HT3 HB3 HX HAN
              rcases Bool.eq_false_or_eq_true f with rfl | rfl
              · have HH := Lib.hid (HLX.out.has rfl)
                have HLF := Lib.hid (HLX.out.left HS.out rfl)
                have HNO := Lib.hid (HLX.out.none HS.out rfl)
                obtain ⟨⟨hql, hqL, hqa, hqb⟩, -⟩ := HLX.out.2 rfl
                have hyb := HYY.out q hql
                have hzq := HZ.out q hqL hqa hqb
                have HDQ : Hid (decide (q ∈ L) = true) := by show _ = _; simp [hqL]
                obtain ⟨q1, q2, q3⟩ := q
                simp only at hyb hzq HH HLF HNO hqa hqb
                obtain ⟨v0, v1, v2⟩ := obP_cells HX4.out
                simp only at v0 v1 v2
                have hz : ¬ q2 < z := by omega
                have dz : decide (q2 < z) = false := by simp; omega
                clear hql hqL hqa hqb HLX hzq
                go_wp2_with fail
                refine (hAny HT4.out X1 X2 q2).mono ?_
                rintro e w5 ⟨⟨c5, rfl, -⟩, hb5⟩
                rw [HH.out]
                have HT5 := Lib.hid (HT4.out.below hb5 HT4.out.hi_le)
                have HB5 := Lib.hid (HB4.out.trans (hb5.mono HB4.out.size))
                have HX5 := Lib.hid ((hb5.block lb hlb4).trans HX4.out)
                have hs5 : w1.heap.size ≤ w5.heap.size := Nat.le_trans hs4 hb5.size
                have hlb5 : lb < w5.heap.size := Nat.lt_of_lt_of_le hlb4 hb5.size
                clear hb5 HT4 HB4 HX4 HH v0 v1 v2
                obtain ⟨v0, v1, v2⟩ := obP_cells HX5.out
                simp only at v0 v1 v2
                go_wp2_with fail
                clear v0 v1 v2
                refine (hDrop HT5.out (q1, q2, q3)).mono ?_
                rintro e w6 ⟨rfl, hT6, hk6⟩
                rw [HDQ.out]
                have HT6 := Lib.hid hT6
                have HB6 := Lib.hid (HB5.out.trans (hk6.toBelow HB5.out.size (fun k h => h.1)))
                have HX6 := Lib.hid (blkK hk6 HX5.out (fun h9 => by have := h9.2; omega))
                have hs6 : w1.heap.size ≤ w6.heap.size := Nat.le_trans hs5 hk6.size
                have hlb6 : lb < w6.heap.size := Nat.lt_of_lt_of_le hlb5 hk6.size
                have HS6 : Hid (∀ r ∈ L.filter (fun r => decide (r ≠ (q1, q2, q3))), r ∈ l) := fun r hr => HS.out r (List.mem_filter.1 hr).1
                clear hT6 hk6 HT5 HB5 HX5 HDQ
                obtain ⟨v0, v1, v2⟩ := obP_cells HX6.out
                simp only at v0 v1 v2
                by_cases hmin : -9223372036854775808 < q2
                · have dmn : decide (-9223372036854775808 < q2) = true := by simp [hmin]
                  go_wp2_with fail
                  refine (hAny HT6.out X1 X2 (q2 - 1)).mono ?_
                  rintro e w7 ⟨⟨c7, rfl, -⟩, hb7⟩
                  rw [HNO.out]
                  have X7 := (hb7.block lb hlb6).trans HX6.out
                  obtain ⟨u0, u1, u2⟩ := obP_cells X7
                  simp only at u0 u1 u2
                  have HT7 := Lib.hid (HT6.out.below hb7 HT6.out.hi_le)
                  have HB7 := Lib.hid (HB6.out.trans (hb7.mono HB6.out.size))
                  have hs7 := Nat.le_trans hs6 hb7.size
                  clear hb7 X7 v0 v1 v2 HT6 HB6 HX6
                  go_wp2
                  exact ⟨⟨i + 1, q2, _, by go_num, by omega, rfl, HT7, HS6, HLF, HB7, hs7⟩, by simp [intOf]; omega⟩
                · have dmn : decide (-9223372036854775808 < q2) = false := by simp; omega
                  go_wp2
                  exact ⟨⟨i + 1, q2, _, by go_num, by omega, rfl, HT6, HS6, HLF, HB6, hs6⟩, by simp [intOf]; omega⟩
              · go_wp2_with (go_at_call 15; refine (AW.out _).mono ?_; rintro e w9 ⟨rfl, hb9⟩)
                go_ret
                exact ⟨rfl, HB4.out.trans (hb9.mono HB4.out.size)⟩
        · obtain rfl : i = l.length := by omega
          go_wp2_with (go_at_call 15; refine (AW.out _).mono ?_; rintro e w9 ⟨rfl, hb9⟩)
          go_ret
          exact ⟨rfl, HBR.out.trans (hb9.mono HBR.out.size)⟩
    · have cd := Lib.hid (heap_build_bad a c l w h (by omega) hw hu)
      clear hw hu hf
      go_enter Tryz.func5, Tryz.ntmps5
      go_wp2_with (first
        | (go_at_call 16; refine cd.out.mono ?_; rintro e w2 ⟨rfl, hb2⟩)
        | (go_at_call 15; refine (AW.out _).mono ?_; rintro e w3 ⟨rfl, hb3⟩))
      go_ret
      exact ⟨rfl, hb2.trans (hb3.mono hb2.size)⟩
  · have dl : decide (60 < (l.length : Int)) = true := by simp; omega
    go_enter Tryz.func5, Tryz.ntmps5
    go_wp2_with (go_at_call 15; refine (AW.out _).mono ?_; rintro e w3 ⟨rfl, hb3⟩)
    go_ret
    exact ⟨rfl, hb3⟩
end Go.Proofs.YtggfdlanobndjaaGreat
