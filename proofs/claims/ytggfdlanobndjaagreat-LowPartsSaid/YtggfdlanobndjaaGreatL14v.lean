/- The law LowParts, walked. -/
import Derived.Test.YtggfdlanobndjaaGreatL14a
import Derived.Test.YtggfdlanobndjaaGreatL14q
import Derived.Test.YtggfdlanobndjaaGreatQ6
namespace Go.Proofs.YtggfdlanobndjaaGreat
open Go.RowKit Go.Maps
attribute [local irreducible] wpQuiet
set_option linter.unusedSimpArgs false
set_option linter.unusedVariables false

/-- what the three lowest ones tell -/
theorem parts_cases {l : List Pt} (hu : (ids l).Nodup) {x1 x2 m : Int} (h1 : x1 ≤ m) (h2 : m < x2) {p a b : Pt} {f o t : Bool} (hp : p = (lws l x1 x2).head?.getD (0, 0, 0)) (ha : a = (lws l x1 m).head?.getD (0, 0, 0)) (hb : b = (lws l (m + 1) x2).head?.getD (0, 0, 0))
    (hf : f = (lws l x1 x2).head?.isSome) (ho : o = (lws l x1 m).head?.isSome) (ht : t = (lws l (m + 1) x2).head?.isSome) :
    (o = false ∧ f = t ∧ p = b) ∨ (o = true ∧ t = true ∧ ltY b a ∧ f = true ∧ p = b) ∨ (o = true ∧ (t = true → ¬ ltY b a) ∧ f = true ∧ p = a) := by
  obtain ⟨q1, q2⟩ := parts_head hu h1 h2
  cases eA : lws l x1 m with
  | nil =>
    rw [eA] at ho
    rw [q1 eA] at hp hf
    exact .inl ⟨ho, hf.trans ht.symm, hp.trans hb.symm⟩
  | cons a' A =>
    rw [eA] at ho ha
    obtain ⟨r1, r2⟩ := q2 a' A eA
    simp only [List.head?_cons, Option.getD_some, Option.isSome_some] at ho ha
    subst ha
    cases eB : lws l (m + 1) x2 with
    | nil =>
      rw [eB] at ht
      have hh := r2 (fun b B e => by rw [eB] at e; cases e)
      rw [hh] at hp hf
      exact .inr (.inr ⟨ho, (fun h => by rw [ht] at h; cases h), hf, hp⟩)
    | cons b' B =>
      rw [eB] at ht hb
      simp only [List.head?_cons, Option.getD_some, Option.isSome_some] at ht hb
      subst hb
      by_cases hlt : ltY b a
      · have hh := r1 b B eB hlt
        rw [hh] at hp hf
        exact .inr (.inl ⟨ho, ht, hlt, hf, hp⟩)
      · have hh := r2 (fun b' B' e => by rw [eB] at e; injection e with e _; rw [← e]; exact hlt)
        rw [hh] at hp hf
        exact .inr (.inr ⟨ho, fun _ => hlt, hf, hp⟩)

set_option maxRecDepth 100000 in
set_option maxHeartbeats 8000000 in
theorem wLowParts (a : Option Addr) (l : List Pt) (n c : Nat) (x1 x2 m : Int) (w : World) (hn : l.length = n) (h : RdK ePt 3 w a l) (hf : ∀ p ∈ l, (Lit.int .i64 p.1).wf = true ∧ (Lit.int .i64 p.2.1).wf = true ∧ (Lit.int .u32 p.2.2).wf = true) (h1 : (Lit.int .i64 x1).wf = true) (h2 : (Lit.int .i64 x2).wf = true) (h3 : (Lit.int .i64 m).wf = true) :
    Calls Tryz.prog 12 #[.slice a n c, .int .i64 x1, .int .i64 x2, .int .i64 m] w fun e w' => e = .returned (.bool true) ∧ Below w.heap.size w w' := by
  subst hn
  have hw : wfN l := fun p hp => (hf p hp).2.2
  have AW := Lib.hid (fun W => awake14 W)
  by_cases hgo : l.length ≤ 80 ∧ x1 ≤ m ∧ m < x2
  · obtain ⟨hlen, hx1, hx2⟩ := hgo
    have dl : decide (80 < (l.length : Int)) = false := by simp; omega
    have dm : decide (m < x1) = false := by simp; omega
    have dx : decide (x2 ≤ m) = false := by simp; omega
    have hwr : IntKind.i64.wrap (m + 1) = m + 1 := by
      simp [Lit.wf, IntKind.min, IntKind.max, IntKind.signed, IntKind.bits] at h2 h3
      rw [IntKind.wrap_i64]; omega
    clear h1 h2 h3 hf
    rcases Bool.eq_false_or_eq_true (unl l) with hu | hu
    · have cd := Lib.hid (lBuild a c l w h (by omega) hw hu)
      have hu' : (ids l).Nodup := by unfold unl at hu; simpa using hu
      have HPC := Lib.hid (fun p a b f o t => parts_cases (p := p) (a := a) (b := b) (f := f) (o := o) (t := t) hu' hx1 hx2)
      clear h hw hu hu' hx1 hx2
      go_enter Tryz.func12, Tryz.ntmps12
      go_wp2_with fail
      refine cd.out.mono ?_
      rintro e w1 ⟨tb, rfl, T1, hb1⟩
      have HT1 := Lib.hid T1
      have HB1 := Lib.hid hb1
      clear T1 hb1 cd
      go_wp2_with fail
      refine (lLowest HT1.out x1 x2).mono ?_
      rintro e w2 ⟨⟨p, hp, cp, rfl, -⟩, hb2⟩
      obtain ⟨p1, p2, p3⟩ := p
      obtain ⟨fp, hfp⟩ : ∃ fp, fp = (lws l x1 x2).head?.isSome := ⟨_, rfl⟩
      rw [← hfp]
      obtain ⟨w3, ew3⟩ : ∃ w3, w3 = w2.alloc (.cells #[.int .i64 p1, .int .i64 p2, .int .u32 p3] 34) := ⟨_, rfl⟩
      have hb3 : Below w2.heap.size w2 w3 := by rw [ew3]; exact (Below.refl _ _).alloc (Nat.le_refl _) _
      have hx3 : w3.heap[w2.heap.size]? = some (obP (p1, p2, p3)) := by rw [ew3]; exact lit0 w2 _
      have hb13 := hb2.trans (hb3.mono hb2.size)
      have HT3 := Lib.hid (HT1.out.below hb13 HT1.out.hi_le)
      have HB3 := Lib.hid (HB1.out.trans (hb13.mono HB1.out.size))
      have HX3 := Lib.hid hx3
      have EW := Lib.hid ew3
      have HP := Lib.hid hp
      have HFP := Lib.hid hfp
      clear hb2 hb3 hx3 hb13 ew3 HT1 HB1 hp hfp
      go_upto_region 7 with fail
      rw [← EW.out]
      clear EW
      go_wp2_with fail
      refine (lLowest HT3.out x1 m).mono ?_
      rintro e w4 ⟨⟨q, hq, cq, rfl, -⟩, hb4⟩
      obtain ⟨q1, q2, q3⟩ := q
      obtain ⟨fq, hfq⟩ : ∃ fq, fq = (lws l x1 m).head?.isSome := ⟨_, rfl⟩
      rw [← hfq]
      obtain ⟨w5, ew5⟩ : ∃ w5, w5 = w4.alloc (.cells #[.int .i64 q1, .int .i64 q2, .int .u32 q3] 34) := ⟨_, rfl⟩
      have hb5 : Below w4.heap.size w4 w5 := by rw [ew5]; exact (Below.refl _ _).alloc (Nat.le_refl _) _
      have hx5 : w5.heap[w4.heap.size]? = some (obP (q1, q2, q3)) := by rw [ew5]; exact lit0 w4 _
      have hb35 := hb4.trans (hb5.mono hb4.size)
      have HT5 := Lib.hid (HT3.out.below hb35 HT3.out.hi_le)
      have HB5 := Lib.hid (HB3.out.trans (hb35.mono HB3.out.size))
      have HX5 := Lib.hid ((hb35.block _ (Array.getElem?_eq_some_iff.1 HX3.out).1).trans HX3.out)
      have HY5 := Lib.hid hx5
      have EW := Lib.hid ew5
      have HQ := Lib.hid hq
      have HFQ := Lib.hid hfq
      clear hb4 hb5 hx5 hb35 ew5 HT3 HB3 HX3 hq hfq
      go_upto_region 8 with fail
      rw [← EW.out]
      clear EW
      go_wp2_with fail
      refine (lLowest HT5.out (m + 1) x2).mono ?_
      rintro e w6 ⟨⟨r, hr, cr, rfl, -⟩, hb6⟩
      obtain ⟨r1, r2, r3⟩ := r
      obtain ⟨fr, hfr⟩ : ∃ fr, fr = (lws l (m + 1) x2).head?.isSome := ⟨_, rfl⟩
      rw [← hfr]
      obtain ⟨w7, ew7⟩ : ∃ w7, w7 = w6.alloc (.cells #[.int .i64 r1, .int .i64 r2, .int .u32 r3] 34) := ⟨_, rfl⟩
      have hb7 : Below w6.heap.size w6 w7 := by rw [ew7]; exact (Below.refl _ _).alloc (Nat.le_refl _) _
      have hx7 : w7.heap[w6.heap.size]? = some (obP (r1, r2, r3)) := by rw [ew7]; exact lit0 w6 _
      have hb57 := hb6.trans (hb7.mono hb6.size)
      have HB7 := Lib.hid (HB5.out.trans (hb57.mono HB5.out.size))
      obtain ⟨y0, y1, y2⟩ := obP_cells ((hb57.block _ (Array.getElem?_eq_some_iff.1 HX5.out).1).trans HX5.out)
      obtain ⟨z0, z1, z2⟩ := obP_cells ((hb57.block _ (Array.getElem?_eq_some_iff.1 HY5.out).1).trans HY5.out)
      obtain ⟨v0, v1, v2⟩ := obP_cells hx7
      simp only at y0 y1 y2 z0 z1 z2 v0 v1 v2
      have EW := Lib.hid ew7
      have hpc := HPC.out _ _ _ _ _ _ HP.out HQ.out hr HFP.out HFQ.out hfr
      clear hb6 hb7 hx7 hb57 ew7 HT5 HB5 HX5 HY5 hr hfr HP HQ HFP HFQ HPC hwr
      go_upto_region 9 with fail
      rw [← EW.out]
      clear EW
      rcases hpc with ⟨rfl, rfl, e⟩ | ⟨rfl, rfl, hlt, rfl, e⟩ | ⟨rfl, hlt, rfl, e⟩
      · simp only [Prod.mk.injEq] at e
        obtain ⟨rfl, rfl, rfl⟩ := e
        go_wp2_with (go_at_call 31; refine (AW.out _).mono ?_; rintro e w9 ⟨rfl, hb9⟩)
        go_ret
        exact ⟨rfl, HB7.out.trans (hb9.mono HB7.out.size)⟩
      · simp only [Prod.mk.injEq] at e
        obtain ⟨rfl, rfl, rfl⟩ := e
        unfold ltY at hlt
        simp only at hlt
        by_cases hh : p2 < q2
        · have d1 : decide (p2 < q2) = true := by simp [hh]
          clear hlt hh
          go_wp2_with (go_at_call 31; refine (AW.out _).mono ?_; rintro e w9 ⟨rfl, hb9⟩)
          go_ret
          exact ⟨rfl, HB7.out.trans (hb9.mono HB7.out.size)⟩
        · obtain ⟨e1, e2⟩ := hlt.resolve_left hh
          have d1 : decide (p2 < q2) = false := by simp [hh]
          have d2 : (p2 == q2) = true := by simp [e1]
          have d3 : decide (p3 < q3) = true := by simp [e2]
          clear hlt hh e1 e2
          go_wp2_with (go_at_call 31; refine (AW.out _).mono ?_; rintro e w9 ⟨rfl, hb9⟩)
          go_ret
          exact ⟨rfl, HB7.out.trans (hb9.mono HB7.out.size)⟩
      · simp only [Prod.mk.injEq] at e
        obtain ⟨rfl, rfl, rfl⟩ := e
        cases fr with
        | false =>
          clear hlt
          go_wp2_with (go_at_call 31; refine (AW.out _).mono ?_; rintro e w9 ⟨rfl, hb9⟩)
          go_ret
          exact ⟨rfl, HB7.out.trans (hb9.mono HB7.out.size)⟩
        | true =>
          have hlt := hlt rfl
          unfold ltY at hlt
          simp only at hlt
          have d1 : decide (r2 < p2) = false := by simp; omega
          by_cases e1 : r2 = p2
          · have d2 : (r2 == p2) = true := by simp [e1]
            have d3 : decide (r3 < p3) = false := by simp; omega
            clear hlt e1
            go_wp2_with (go_at_call 31; refine (AW.out _).mono ?_; rintro e w9 ⟨rfl, hb9⟩)
            go_ret
            exact ⟨rfl, HB7.out.trans (hb9.mono HB7.out.size)⟩
          · have d2 : (r2 == p2) = false := by simp [e1]
            clear hlt e1
            go_wp2_with (go_at_call 31; refine (AW.out _).mono ?_; rintro e w9 ⟨rfl, hb9⟩)
            go_ret
            exact ⟨rfl, HB7.out.trans (hb9.mono HB7.out.size)⟩
    · have cb1 := Lib.hid (low_build_bad a c l w h (by omega) hw hu)
      clear h hw hu hx1 hx2 hwr
      go_enter Tryz.func12, Tryz.ntmps12
      go_wp2_with (first
        | (go_at_call 32; refine cb1.out.mono ?_; rintro e w2 ⟨rfl, hb2⟩)
        | (go_at_call 31; refine (AW.out _).mono ?_; rintro e w4 ⟨rfl, hb4⟩))
      go_ret
      exact ⟨rfl, hb2.trans (hb4.mono hb2.size)⟩
  · by_cases hlen : l.length ≤ 80
    · have dl : decide (80 < (l.length : Int)) = false := by simp; omega
      by_cases hx1 : x1 ≤ m
      · have dm : decide (m < x1) = false := by simp; omega
        have dx : decide (x2 ≤ m) = true := by simp; omega
        clear hgo hlen hx1 h hw hf
        go_enter Tryz.func12, Tryz.ntmps12
        go_wp2_with (go_at_call 31; refine (AW.out _).mono ?_; rintro e w3 ⟨rfl, hb3⟩)
        go_ret
        exact ⟨rfl, hb3⟩
      · have dm : decide (m < x1) = true := by simp; omega
        clear hgo hlen hx1 h hw hf
        go_enter Tryz.func12, Tryz.ntmps12
        go_wp2_with (go_at_call 31; refine (AW.out _).mono ?_; rintro e w3 ⟨rfl, hb3⟩)
        go_ret
        exact ⟨rfl, hb3⟩
    · have dl : decide (80 < (l.length : Int)) = true := by simp; omega
      clear hgo hlen h hw hf
      go_enter Tryz.func12, Tryz.ntmps12
      go_wp2_with (go_at_call 31; refine (AW.out _).mono ?_; rintro e w3 ⟨rfl, hb3⟩)
      go_ret
      exact ⟨rfl, hb3⟩
end Go.Proofs.YtggfdlanobndjaaGreat
