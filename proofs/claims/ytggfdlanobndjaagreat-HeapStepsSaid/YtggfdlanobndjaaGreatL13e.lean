/- The law HeapSteps, walked. -/
import Derived.Test.YtggfdlanobndjaaGreatL13w
import Derived.Test.YtggfdlanobndjaaGreatQ7
import Derived.Test.YtggfdlanobndjaaGreatQ3
import Derived.Test.YtggfdlanobndjaaGreatQ5
namespace Go.Proofs.YtggfdlanobndjaaGreat
open Go.RowKit Go.Maps
attribute [local irreducible] wpQuiet
set_option linter.unusedSimpArgs false
set_option linter.unusedVariables false

/-! ### The plain law -/
theorem grown_of13 {w w' : World} (h : Below w.heap.size w w') : w.grownBy w' none := ⟨h.os, h.tape, h.output, h.size, fun k hk _ => h.block k hk⟩
theorem ids_at13 : ∀ {l : List Pt}, (ids l).Nodup → ∀ p ∈ l, ∀ q ∈ l, p.2.2 = q.2.2 → p = q
  | [], _, p, hp, _, _, _ => absurd hp List.not_mem_nil
  | a :: l, hu, p, hp, q, hq, e => by
    unfold ids at hu
    rw [List.map_cons, List.nodup_cons] at hu
    rcases List.mem_cons.1 hp with h1 | h1 <;> rcases List.mem_cons.1 hq with h2 | h2
    · rw [h1, h2]
    · exact absurd (by rw [← h1, e]; exact List.mem_map_of_mem h2) hu.1
    · exact absurd (by rw [← h2, ← e]; exact List.mem_map_of_mem h1) hu.1
    · exact ids_at13 hu.2 p h1 q h2 e
theorem mem_hasN (l : List Pt) (x1 x2 y n : Int) : n ∈ has3 l x1 x2 y ↔ ∃ p ∈ l, p.2.2 = n ∧ x1 ≤ p.1 ∧ p.1 ≤ x2 ∧ p.2.1 ≤ y := by
  unfold has3 srtI ids
  rw [(List.mergeSort_perm _ _).mem_iff, List.mem_map]
  constructor
  · rintro ⟨p, hp, e⟩
    obtain ⟨h1, h2⟩ := List.mem_filter.1 hp
    exact ⟨p, h1, e, by simpa [in3] using h2⟩
  · rintro ⟨p, h1, e, h2⟩
    exact ⟨p, List.mem_filter.2 ⟨h1, by simpa [in3] using h2⟩, e⟩
/-- what the map knows when the points T have been asked -/
structure StI (l : List Pt) (x1 x2 : Int) (T : List Pt) (F : Int → Option Int) : Prop where
  lo : ∀ n v, F n = some v → ∃ p ∈ l, p.2.2 = n ∧ x1 ≤ p.1 ∧ p.1 ≤ x2 ∧ p.2.1 ≤ v
  hi : ∀ p ∈ l, x1 ≤ p.1 → p.1 ≤ x2 → ∀ q ∈ T, p.2.1 ≤ q.2.1 → ∃ v, F p.2.2 = some v ∧ v ≤ q.2.1
def Upto (N : List Int) (y : Int) (F : Int → Option Int) : Prop := ∀ n ∈ N, ∃ v, F n = some v ∧ v ≤ y
section
variable {l T : List Pt} {x1 x2 : Int} {F : Int → Option Int}
theorem StI.zero : StI l x1 x2 [] fun _ => none := ⟨fun n v h => (by cases h), fun p _ _ _ q h => absurd h List.not_mem_nil⟩
theorem StI.put (H : StI l x1 x2 T F) {n y : Int} (hn : n ∈ has3 l x1 x2 y) (hy : ∀ v, F n = some v → y ≤ v) : StI l x1 x2 T (putF F n y) := by
  refine ⟨fun m v h => ?_, fun p hp h1 h2 q hq h3 => ?_⟩
  · unfold putF at h
    by_cases e : m = n
    · rw [if_pos e] at h
      injection h with h
      rw [← h, e]
      exact (mem_hasN l x1 x2 y n).1 hn
    · rw [if_neg e] at h
      exact H.lo m v h
  · obtain ⟨v, hv, hle⟩ := H.hi p hp h1 h2 q hq h3
    unfold putF
    by_cases e : p.2.2 = n
    · rw [e] at hv
      have := hy v hv
      exact ⟨y, if_pos e, by omega⟩
    · exact ⟨v, by rw [if_neg e]; exact hv, hle⟩
theorem Upto.put {N N' : List Int} {n y : Int} (H : Upto N y F) (hN : ∀ m, m ∈ N' ↔ m ∈ N ∨ m = n) : Upto N' y (putF F n y) := fun m hm => by
  unfold putF
  by_cases e : m = n
  · exact ⟨y, if_pos e, Int.le_refl _⟩
  · obtain ⟨v, hv, hle⟩ := H m (((hN m).1 hm).resolve_right e)
    exact ⟨v, by rw [if_neg e]; exact hv, hle⟩
theorem Upto.keep {N N' : List Int} {n y v : Int} (H : Upto N y F) (hN : ∀ m, m ∈ N' ↔ m ∈ N ∨ m = n) (h : F n = some v) (hv : v ≤ y) : Upto N' y F := fun m hm => by
  rcases (hN m).1 hm with h1 | rfl
  · exact H m h1
  · exact ⟨v, h, hv⟩
theorem StI.more {T' : List Pt} {q : Pt} (H : StI l x1 x2 T F) (hT : ∀ r, r ∈ T' ↔ r ∈ T ∨ r = q) (hU : Upto (has3 l x1 x2 q.2.1) q.2.1 F) : StI l x1 x2 T' F :=
  ⟨H.lo, fun p hp h1 h2 r hr h3 => by
    rcases (hT r).1 hr with hr | rfl
    · exact H.hi p hp h1 h2 r hr h3
    · exact hU p.2.2 ((mem_hasN l x1 x2 r.2.1 p.2.2).2 ⟨p, hp, rfl, h1, h2, h3⟩)⟩
theorem StI.at_in (H : StI l x1 x2 l F) (hu : (ids l).Nodup) {p : Pt} (hp : p ∈ l) (h1 : x1 ≤ p.1) (h2 : p.1 ≤ x2) : F p.2.2 = some p.2.1 := by
  obtain ⟨v, hv, hle⟩ := H.hi p hp h1 h2 p hp (Int.le_refl _)
  obtain ⟨q, hq, e, -, -, h3⟩ := H.lo _ _ hv
  obtain rfl := ids_at13 hu q hq p hp e
  rw [hv]
  congr 1
  omega
theorem StI.at_out (H : StI l x1 x2 l F) (hu : (ids l).Nodup) {p : Pt} (hp : p ∈ l) (h : ¬ (x1 ≤ p.1 ∧ p.1 ≤ x2)) : F p.2.2 = none := by
  match hF : F p.2.2 with
  | none => rfl
  | some v =>
    obtain ⟨q, hq, e, h1, h2, -⟩ := H.lo _ _ hF
    obtain rfl := ids_at13 hu q hq p hp e
    exact absurd ⟨h1, h2⟩ h
end
/-- between two numbers -/
def inX3 (x1 x2 : Int) (p : Pt) : Bool := decide (x1 ≤ p.1 ∧ p.1 ≤ x2)
theorem StI.keys {l : List Pt} {x1 x2 : Int} {F : Int → Option Int} (H : StI l x1 x2 l F) (hu : (ids l).Nodup) {ks : List Int} (hk : ks.Nodup) (hm : ∀ x, x ∈ ks ↔ (F x).isSome = true) : ks.length = (l.filter (inX3 x1 x2)).length := by
  have e : (l.filter (inX3 x1 x2)).length = (ids (l.filter (inX3 x1 x2))).length := by simp [ids]
  rw [e]
  refine nodup_same_len hk (hu.sublist (List.Sublist.map _ List.filter_sublist)) fun x => ?_
  rw [hm x]
  unfold ids
  rw [List.mem_map]
  constructor
  · intro h
    obtain ⟨v, hv⟩ := Option.isSome_iff_exists.1 h
    obtain ⟨p, hp, e, h1, h2, -⟩ := H.lo _ _ hv
    exact ⟨p, List.mem_filter.2 ⟨hp, by simp [inX3, h1, h2]⟩, e⟩
  · rintro ⟨p, hp, rfl⟩
    obtain ⟨h1, h2⟩ := List.mem_filter.1 hp
    simp only [inX3, decide_eq_true_eq] at h2
    rw [H.at_in hu h1 h2.1 h2.2]
    rfl
theorem many_in {l : List Pt} {i : Nat} (hi : i < l.length) (f : Pt → Bool) : (f l[i] = true → ((l.take (i + 1)).filter f).length = ((l.take i).filter f).length + 1) ∧ (f l[i] = false → ((l.take (i + 1)).filter f).length = ((l.take i).filter f).length) := by
  rw [List.take_succ_eq_append_getElem hi, List.filter_append]
  constructor <;> intro h <;> simp [h]
theorem inX3_cases (x1 x2 : Int) (px py pi : Int) :
    (inX3 x1 x2 (px, py, pi) = true ∧ x1 ≤ px ∧ px ≤ x2 ∧ decide (x1 ≤ px) = true ∧ decide (px ≤ x2) = true) ∨ (inX3 x1 x2 (px, py, pi) = false ∧ ¬ (x1 ≤ px ∧ px ≤ x2) ∧ decide (x1 ≤ px) = false) ∨ (inX3 x1 x2 (px, py, pi) = false ∧ ¬ (x1 ≤ px ∧ px ≤ x2) ∧ decide (x1 ≤ px) = true ∧ decide (px ≤ x2) = false) := by
  unfold inX3
  simp only [decide_eq_true_eq, decide_eq_false_iff_not]
  omega
theorem mem_take1 {α : Type} {l : List α} {j : Nat} (hj : j < l.length) (r : α) : r ∈ l.take (j + 1) ↔ r ∈ l.take j ∨ r = l[j] := by
  rw [List.take_succ_eq_append_getElem hj, List.mem_append, List.mem_singleton]

/-- the map as it lies -/
def MpS (W : World) (mb m : Nat) (l : List Pt) (x1 x2 : Int) (T : List Pt) (N : List Int) (y : Int) : Prop :=
  ∃ (D : DataW Unit) (ks : List Int) (F : Int → Option Int), W.ownsMap Tryz.prog 32 (plainElem Tryz.prog 2) mb m D ∧ IsM .u32 .i64 D F ks ∧ StI l x1 x2 T F ∧ Upto N y F
theorem MpS.below {W W' : World} {mb m : Nat} {l : List Pt} {x1 x2 : Int} {T : List Pt} {N : List Int} {y : Int} (h : MpS W mb m l x1 x2 T N y) (hb : Below W.heap.size W W') : MpS W' mb m l x1 x2 T N y := by
  obtain ⟨D, ks, F, h1, h2⟩ := h
  exact ⟨D, ks, F, h1.kept (grown_of13 hb) (by simp), h2⟩

/-! ### The walk -/
set_option maxRecDepth 100000 in
set_option maxHeartbeats 8000000 in
theorem wHeapSteps (a : Option Addr) (l : List Pt) (n c : Nat) (X1 X2 : Int) (w : World) (hn : l.length = n) (h : RdK ePt 3 w a l) (hf : ∀ p ∈ l, (Lit.int .i64 p.1).wf = true ∧ (Lit.int .i64 p.2.1).wf = true ∧ (Lit.int .u32 p.2.2).wf = true) :
    Calls Tryz.prog 4 #[.slice a n c, .int .i64 X1, .int .i64 X2] w fun e w' => e = .returned (.bool true) ∧ Below w.heap.size w w' := by
  subst hn
  have hw : wfN l := fun p hp => (hf p hp).2.2
  have AW := Lib.hid (fun W => awake13 W)
  by_cases hlen : l.length ≤ 80
  · have dl : decide (80 < (l.length : Int)) = false := by simp; omega
    rcases Bool.eq_false_or_eq_true (unl l) with hu | hu
    · have cd := Lib.hid (hBuild a c l w h (by omega) hw hu)
      have HU := Lib.hid (show (ids l).Nodup by unfold unl at hu; simpa using hu)
      have HR := Lib.hid h
      have HYW := Lib.hid (fun p hp => (hf p hp).2.1)
      have HNW := Lib.hid (show ∀ x1 x2 y, ∀ n ∈ has3 l x1 x2 y, (Lit.int .u32 n).wf = true from fun x1 x2 y n hn => by
        obtain ⟨p, hp, e, -⟩ := (mem_hasN l x1 x2 y n).1 hn
        exact e ▸ (hf p hp).2.2)
      have HPW := Lib.hid hw
      clear hw hf h hu
      go_enter Tryz.func4, Tryz.ntmps4
      go_wp2_with fail
      refine cd.out.mono ?_
      rintro e w1 ⟨tb, rfl, T1, hb1⟩
      have HT1 := Lib.hid T1
      have HB1 := Lib.hid hb1
      have hs01 := hb1.size
      clear T1 hb1 cd
      have hmm := @run_makeMap Tryz.prog
      go_upto_region 7 with fail
      clear hmm
      obtain ⟨w2, ew2⟩ : ∃ w2, w2 = w1.alloc (Obj.map #[] 0) := ⟨_, rfl⟩
      have b2 : Below w1.heap.size w1 w2 := by rw [ew2]; exact (Below.refl _ _).alloc (Nat.le_refl _) _
      have hm2 : w2.ownsMap Tryz.prog 32 (plainElem Tryz.prog 2) w1.heap.size 0 (.map [] : DataW Unit) := by rw [ew2]; exact World.ownsMap_made _ _ _ _
      have hs2 : w1.heap.size < w2.heap.size := by rw [ew2]; simp
      rw [← ew2]
      have HM2 : Hid (MpS w2 w1.heap.size 0 l X1 X2 [] [] 0) := ⟨_, _, _, hm2, IsM.empty _ _, StI.zero, fun n h => absurd h List.not_mem_nil⟩
      have HT2 := Lib.hid (HT1.out.below b2 HT1.out.hi_le)
      have HB2 := Lib.hid (HB1.out.trans (b2.mono HB1.out.size))
      clear ew2 b2 hm2 HT1 HB1
      generalize w1.heap.size = mb at *
      go_wp2
      go_loopw [38] (fun iv wr => ∃ (i m : Nat), iv = .int .i64 i ∧ i ≤ l.length ∧ m ≤ 80 * i ∧ Hid (HepAt wr w.heap.size mb tb l.length l) ∧ Hid (MpS wr mb m l X1 X2 (l.take i) [] 0) ∧ Hid (Below w.heap.size w wr) ∧ mb < wr.heap.size) (fun iv _ => l.length - (intOf iv).toNat)
      case atStart => exact ⟨0, 0, rfl, Nat.zero_le _, Nat.zero_le _, HT2, by rw [List.take_zero]; exact HM2, HB2, hs2⟩
      case round =>
        obtain ⟨i, m, rfl, hi, hmi, HT, HM, HBR, hsr⟩ := hrel
        by_cases hil : i < l.length
        · have hil2 : (i : Int) < (l.length : Int) := by omega
          obtain ⟨b9, off9, ea, hbl, hcs⟩ := (HR.out.below HBR.out).get (by omega)
          have x0 := hcs i hil 0 (by omega)
          have x1 := hcs i hil 1 (by omega)
          have x2 := hcs i hil 2 (by omega)
          simp only [ePt, List.getElem?_cons_zero, List.getElem?_cons_succ, Nat.add_zero] at x0 x1 x2
          have HMT := Lib.hid (fun r => mem_take1 hil r)
          have HYI := Lib.hid (HYW.out l[i] (List.getElem_mem hil))
          have HNI := Lib.hid (HNW.out X1 X2 l[i].2.1)
          have EA := Lib.hid ea
          clear hcs ea
          generalize l[i] = p at *
          obtain ⟨p1, p2, p3⟩ := p
          simp only at x0 x1 x2 HYI HNI
          obtain rfl := EA.out
          clear EA
          obtain ⟨w3, ew3⟩ : ∃ w3, w3 = wr.alloc (.cells #[.int .i64 p1, .int .i64 p2, .int .u32 p3] 34) := ⟨_, rfl⟩
          have b3 : Below wr.heap.size wr w3 := by rw [ew3]; exact (Below.refl _ _).alloc (Nat.le_refl _) _
          have X3_ : w3.heap[wr.heap.size]? = some (obP (p1, p2, p3)) := by rw [ew3]; exact lit0 _ _
          have HT3 := Lib.hid (HT.out.below b3 HT.out.hi_le)
          have HM3 := Lib.hid (HM.out.below b3)
          have HB3 := Lib.hid (HBR.out.trans (b3.mono HBR.out.size))
          have EX := ew3.symm
          obtain ⟨y0, y1, y2⟩ := obP_cells X3_
          simp only at y0 y1 y2
          have HX3 := Lib.hid X3_
          have hpb : wr.heap.size < w3.heap.size := (Array.getElem?_eq_some_iff.1 X3_).1
          clear ew3 b3 X3_ HT HM HBR
          go_wp2_with fail
          (try rw [EX])
          clear EX x0 x1 x2 y0 y1 y2
          generalize wr.heap.size = pb at *
          refine (hThree HT3.out X1 X2 p2).mono ?_
          rintro e w4 ⟨v4, c4, rfl, -, hown4, hb4⟩
          have hgN : (has3 l X1 X2 p2).length ≤ 80 := by rw [has3_len]; exact Nat.le_trans (List.length_filter_le _ _) hlen
          have HX4 := Lib.hid ((hb4.block pb hpb).trans HX3.out)
          have HT4 := Lib.hid (HT3.out.below hb4 HT3.out.hi_le)
          have HM4 := Lib.hid (HM3.out.below hb4)
          have HB4 := Lib.hid (HB3.out.trans (hb4.mono HB3.out.size))
          have HO4 := Lib.hid hown4
          have hs34 := hb4.size
          have HNN : Hid (∀ n, n ∈ has3 l X1 X2 p2 ↔ n ∈ has3 l X1 X2 p2) := fun n => Iff.rfl
          obtain ⟨a4, k4, rfl, -, -, -⟩ := Rd.of_owns hown4
          clear hown4 hb4 HX3 HT3 HM3 HB3 HNN
          generalize hN : has3 l X1 X2 p2 = N at *
          have HN := Lib.hid hN
          clear hN
          go_wp2
          go_loopw [53] (fun jv wr => ∃ (j m : Nat), jv = .int .i64 j ∧ j ≤ N.length ∧ m ≤ 80 * i + j ∧ Hid (KpS (fun k => k = mb) w4 wr) ∧ Hid (MpS wr mb m l X1 X2 (l.take i) (N.take j) p2)) (fun jv _ => N.length - (intOf jv).toNat)
          case atStart => exact ⟨0, m, rfl, Nat.zero_le _, by omega, Lib.hid (KpS.refl _ _), by
            obtain ⟨D, ks, F, h1, h2, h3, -⟩ := HM4.out
            exact ⟨D, ks, F, h1, h2, h3, fun n h => absurd h (by simp)⟩⟩
          case round =>
            obtain ⟨j, mm, rfl, hj, hmj, HK, HM⟩ := hrel
            by_cases hjl : j < N.length
            · have hjl2 : (j : Int) < (N.length : Int) := by omega
              have RR := rowK HO4.out HK.out (fun gb e h => by have := (HO4.out.lt gb e).1; omega)
              obtain ⟨a9, k9, e9, -, -, hr9⟩ := Rd.of_owns RR
              injection e9 with e9 _ _
              obtain ⟨b, off, ea, hbl, hcs⟩ := hr9.get (by omega)
              have x0 := hcs j hjl
              have hkey : Hid (keyOf Tryz.prog 32 (.int .u32 N[j]) = some (.int .u32 N[j])) := Lib.hid (keyOf_int_mk Tryz.underlying32 (HNI.out _ (List.getElem_mem _)))
              have HNT := Lib.hid (fun r => mem_take1 hjl r)
              have HNM : Hid (N[j] ∈ has3 l X1 X2 p2) := by show _ ∈ _; rw [HN.out]; exact List.getElem_mem hjl
              obtain ⟨D, ks, F, hown0, hD, hI, hU⟩ := HM.out
              have X4 := blkK HK.out HX4.out (by omega)
              obtain ⟨y0, y1, y2⟩ := obP_cells X4
              simp only at y0 y1 y2
              have EA := Lib.hid (e9.trans ea)
              have HD := Lib.hid hD
              have HI := Lib.hid hI
              have HUP := Lib.hid hU
              clear HM hcs hD hI hU ea RR hr9 e9 X4
              generalize N[j] = q at *
              obtain rfl := EA.out
              clear EA
              have hTm : mm < maxLen := by unfold maxLen; omega
              have hhas := (HD.out.2.2.2.2 q).1
              have hat0 := (HD.out.2.2.2.2 q).2 (.lit (.int .i64 0))
              rcases hF : F q with _ | v
              · rw [hF] at hhas hat0
                simp only [Option.isSome_none] at hhas
                have HA0 : Hid (∀ cc : Int, D.atKey (.int .u32 q) (.lit (.int .i64 0)) = .lit (.int .i64 cc) → cc = 0) := fun cc hcc => by rw [hat0] at hcc; simpa using hcc.symm
                have HH := Lib.hid hhas
                have HI2 := Lib.hid (HI.out.put (y := p2) HNM.out (fun v hv => by rw [hF] at hv; cases hv))
                have HU2 := Lib.hid (HUP.out.put HNT.out)
                have HD2 := Lib.hid (HD.out.put q p2)
                clear hhas hat0 hF
                go_wp2_with (first | (at_lookup; refine wpList_lookup_own_ok_int _ rfl _ _ 39 rfl 32 2 .i64 (int_keyed Tryz.underlying32) Tryz.underlying39 Tryz.underlying2 (Tryz.zeroValue2 _) mb _ _ rfl hown0 _ _ rfl hkey.out ?_; intro cc hat hwc; obtain rfl := HA0.out cc hat; rw [HH.out]; clear hat hwc) | (at_mapUpdate; refine wpList_mapUpdate_own _ rfl _ _ _ 39 rfl 32 2 (int_keyed Tryz.underlying32) Tryz.underlying39 _ mb mm _ rfl hown0 hTm _ _ _ rfl rfl hkey.out _ [] (plainElem_int Tryz.underlying2 HYI.out) ?_; intro w33 hown3 hgrow3))
                go_roundw
                case rel =>
                  refine ⟨_, _, _, _, ?_, rfl, rfl, rfl, rfl⟩
                  exact ⟨j + 1, by go_num, by omega, mm + 1, by omega, Lib.hid (HK.out.grown hgrow3 (fun k hk => .inl (by injection hk with hk; exact hk.symm))), ⟨_, _, _, hown3, HD2.out, HI2.out, HU2.out⟩⟩
                case measure => simp [intOf]; omega
              · rw [hF] at hhas hat0
                simp only [Option.isSome_some] at hhas
                have HA0 : Hid (∀ cc : Int, D.atKey (.int .u32 q) (.lit (.int .i64 0)) = .lit (.int .i64 cc) → cc = v) := fun cc hcc => by rw [hat0] at hcc; simpa using hcc.symm
                have HH := Lib.hid hhas
                by_cases hpv : p2 < v
                · have HI2 := Lib.hid (HI.out.put (y := p2) HNM.out (fun v' hv => by rw [hF] at hv; injection hv with hv; omega))
                  have HU2 := Lib.hid (HUP.out.put HNT.out)
                  have HD2 := Lib.hid (HD.out.put q p2)
                  have d1 : decide (p2 < v) = true := by simp [hpv]
                  clear hhas hat0 hF
                  go_wp2_with (first | (at_lookup; refine wpList_lookup_own_ok_int _ rfl _ _ 39 rfl 32 2 .i64 (int_keyed Tryz.underlying32) Tryz.underlying39 Tryz.underlying2 (Tryz.zeroValue2 _) mb _ _ rfl hown0 _ _ rfl hkey.out ?_; intro cc hat hwc; obtain rfl := HA0.out cc hat; rw [HH.out]; clear hat hwc) | (at_mapUpdate; refine wpList_mapUpdate_own _ rfl _ _ _ 39 rfl 32 2 (int_keyed Tryz.underlying32) Tryz.underlying39 _ mb mm _ rfl hown0 hTm _ _ _ rfl rfl hkey.out _ [] (plainElem_int Tryz.underlying2 HYI.out) ?_; intro w33 hown3 hgrow3))
                  go_roundw
                  case rel =>
                    refine ⟨_, _, _, _, ?_, rfl, rfl, rfl, rfl⟩
                    exact ⟨j + 1, by go_num, by omega, mm + 1, by omega, Lib.hid (HK.out.grown hgrow3 (fun k hk => .inl (by injection hk with hk; exact hk.symm))), ⟨_, _, _, hown3, HD2.out, HI2.out, HU2.out⟩⟩
                  case measure => simp [intOf]; omega
                · have HU2 := Lib.hid (HUP.out.keep HNT.out hF (by omega))
                  have d1 : decide (p2 < v) = false := by simp; omega
                  have HOW := Lib.hid hown0
                  clear hhas hat0 hF
                  go_wp2_with (at_lookup; refine wpList_lookup_own_ok_int _ rfl _ _ 39 rfl 32 2 .i64 (int_keyed Tryz.underlying32) Tryz.underlying39 Tryz.underlying2 (Tryz.zeroValue2 _) mb _ _ rfl hown0 _ _ rfl hkey.out ?_; intro cc hat hwc; obtain rfl := HA0.out cc hat; rw [HH.out]; clear hat hwc)
                  go_roundw
                  case rel =>
                    refine ⟨_, _, _, _, ?_, rfl, rfl, rfl, rfl⟩
                    exact ⟨j + 1, by go_num, by omega, mm, by omega, ⟨_, _, _, HOW.out, HD.out, HI.out, HU2.out⟩⟩
                  case measure => simp [intOf]; omega
            · obtain rfl : j = N.length := by omega
              rw [List.take_length] at HM
              have HM5 : Hid (MpS wr mb mm l X1 X2 (l.take (i + 1)) [] 0) := by
                obtain ⟨D, ks, F, h1, h2, h3, h4⟩ := HM.out
                refine ⟨D, ks, F, h1, h2, h3.more HMT.out ?_, fun n h => absurd h List.not_mem_nil⟩
                show Upto (has3 l X1 X2 p2) p2 F
                rw [HN.out]
                exact h4
              have HT5 := Lib.hid (HT4.out.kept HK.out (fun k h1 h2 h3 => by omega))
              have HB5 := Lib.hid (HB4.out.trans (HK.out.toBelow HB4.out.size (fun k h => by omega)))
              have hs5 : mb < wr.heap.size := by have := HK.out.size; omega
              clear HM HT4 HB4 HK HMT HN
              go_wp2
              exact ⟨⟨i + 1, mm, by go_num, by omega, by omega, HT5, HM5, HB5, hs5⟩, by simp [intOf]; omega⟩
        · obtain rfl : i = l.length := by omega
          rw [List.take_length] at HM
          obtain ⟨D, ks, F, hown0, hD, hI, -⟩ := HM.out
          have HKS : Hid (Maps.size D = (l.filter (inX3 X1 X2)).length) := by
            show _ = _
            rw [hD.2.1]
            exact hI.keys HU.out hD.2.2.1 hD.2.2.2.1
          have HIN := Lib.hid (fun p hp h1 h2 => hI.at_in HU.out (p := p) hp h1 h2)
          have HOUT := Lib.hid (fun p hp h => hI.at_out HU.out (p := p) hp h)
          have HD := Lib.hid hD
          have HOM := Lib.hid hown0
          obtain ⟨w5, ew5⟩ : ∃ w5 : World, w5 = wr := ⟨_, rfl⟩
          subst ew5
          clear hown0 hD hI HM HT
          have hgl : (l.filter (inX3 X1 X2)).length ≤ 80 := Nat.le_trans (List.length_filter_le _ _) hlen
          go_wp2
          go_loopw [18, 79] (fun cv iv wr => ∃ (i : Nat), iv = .int .i64 i ∧ i ≤ l.length ∧ cv = .int .i64 ((l.take i).filter (inX3 X1 X2)).length ∧ Hid (Below w5.heap.size w5 wr)) (fun _ iv _ => l.length - (intOf iv).toNat)
          case atStart => exact ⟨0, rfl, Nat.zero_le _, by simp, Lib.hid (Below.refl _ _)⟩
          case round =>
            obtain ⟨i, rfl, hi, rfl, HBK⟩ := hrel
            by_cases hil : i < l.length
            · have hil2 : (i : Int) < (l.length : Int) := by omega
              obtain ⟨b9, off9, ea, hbl, hcs⟩ := (HR.out.below (HBR.out.trans (HBK.out.mono HBR.out.size))).get (by omega)
              have x0 := hcs i hil 0 (by omega)
              have x1 := hcs i hil 1 (by omega)
              have x2 := hcs i hil 2 (by omega)
              simp only [ePt, List.getElem?_cons_zero, List.getElem?_cons_succ, Nat.add_zero] at x0 x1 x2
              have hkey : Hid (keyOf Tryz.prog 32 (.int .u32 l[i].2.2) = some (.int .u32 l[i].2.2)) := Lib.hid (keyOf_int_mk Tryz.underlying32 (HPW.out _ (List.getElem_mem _)))
              have HIN1 := Lib.hid (HIN.out l[i] (List.getElem_mem hil))
              have HOUT1 := Lib.hid (HOUT.out l[i] (List.getElem_mem hil))
              have HCY := Lib.hid (many_in hil (inX3 X1 X2)).1
              have HCN := Lib.hid (many_in hil (inX3 X1 X2)).2
              have hcl : ((l.take i).filter (inX3 X1 X2)).length ≤ 80 := Nat.le_trans (List.length_filter_le _ _) (by rw [List.length_take]; omega)
              have EA := Lib.hid ea
              clear hcs ea
              generalize l[i] = p at *
              obtain ⟨p1, p2, p3⟩ := p
              simp only at x0 x1 x2 hkey HIN1 HOUT1
              obtain rfl := EA.out
              clear EA
              generalize ((l.take i).filter (inX3 X1 X2)).length = cn at *
              obtain ⟨w6, ew6⟩ : ∃ w6, w6 = wr.alloc (.cells #[.int .i64 p1, .int .i64 p2, .int .u32 p3] 34) := ⟨_, rfl⟩
              have b6 : Below wr.heap.size wr w6 := by rw [ew6]; exact (Below.refl _ _).alloc (Nat.le_refl _) _
              have X6_ : w6.heap[wr.heap.size]? = some (obP (p1, p2, p3)) := by rw [ew6]; exact lit0 _ _
              have B6 := HBK.out.trans (b6.mono HBK.out.size)
              have HB6 := Lib.hid B6
              have hown6 := HOM.out.kept (grown_of13 B6) (by simp)
              obtain ⟨y0, y1, y2⟩ := obP_cells X6_
              simp only at y0 y1 y2
              have EW := Lib.hid ew6
              have HY := Lib.hid (And.intro y0 (And.intro y1 y2))
              have HO6 := Lib.hid hown6
              clear ew6 b6 X6_ B6 hown6 y0 y1 y2
              go_upto_region 23 with fail
              rw [← EW.out]
              clear EW x0 x1 x2
              have hown6 := HO6.out
              obtain ⟨y0, y1, y2⟩ := HY.out
              have hhas := (HD.out.2.2.2.2 p3).1
              have hat0 := (HD.out.2.2.2.2 p3).2 (.lit (.int .i64 0))
              rcases inX3_cases X1 X2 p1 p2 p3 with ⟨hf, h1, h2, d1, d2⟩ | ⟨hf, h1, d1⟩ | ⟨hf, h1, d1, d2⟩
              · have hF := HIN1.out h1 h2
                rw [hF] at hhas hat0
                simp only [Option.isSome_some] at hhas
                have HA0 : Hid (∀ cc : Int, D.atKey (.int .u32 p3) (.lit (.int .i64 0)) = .lit (.int .i64 cc) → cc = p2) := fun cc hcc => by rw [hat0] at hcc; simpa using hcc.symm
                have HH := Lib.hid hhas
                have HC := Lib.hid (HCY.out hf)
                have d3 : (p2 != p2) = false := by simp
                clear hhas hat0 hF hf h1 h2 HCY HCN HIN1 HOUT1
                go_wp2_with (at_lookup; refine wpList_lookup_own_ok_int _ rfl _ _ 39 rfl 32 2 .i64 (int_keyed Tryz.underlying32) Tryz.underlying39 Tryz.underlying2 (Tryz.zeroValue2 _) mb _ _ rfl hown6 _ _ rfl hkey.out ?_; intro cc hat hwc; obtain rfl := HA0.out cc hat; rw [HH.out]; clear hat hwc)
                go_roundw
                case rel => first | exact ⟨i + 1, by go_num, by omega, by rw [HC.out]; go_num, HB6⟩ | (refine ⟨_, _, _, ?_, rfl, rfl, rfl⟩; exact ⟨i + 1, by go_num, by omega, by rw [HC.out]; go_num, HB6⟩) | (refine ⟨_, _, _, _, ?_, rfl, rfl, rfl, rfl⟩; exact ⟨i + 1, by go_num, by omega, by rw [HC.out]; go_num, HB6⟩) | (refine ⟨_, _, _, _, _, ?_, rfl, rfl, rfl, rfl, rfl⟩; exact ⟨i + 1, by go_num, by omega, by rw [HC.out]; go_num, HB6⟩) | (refine ⟨_, _, _, _, _, _, ?_, rfl, rfl, rfl, rfl, rfl, rfl⟩; exact ⟨i + 1, by go_num, by omega, by rw [HC.out]; go_num, HB6⟩)
                case measure => simp [intOf]; omega
              all_goals
                have hF := HOUT1.out h1
                rw [hF] at hhas hat0
                simp only [Option.isSome_none] at hhas
                have HA0 : Hid (∀ cc : Int, D.atKey (.int .u32 p3) (.lit (.int .i64 0)) = .lit (.int .i64 cc) → cc = 0) := fun cc hcc => by rw [hat0] at hcc; simpa using hcc.symm
                have HH := Lib.hid hhas
                have HC := Lib.hid (HCN.out hf)
                clear hhas hat0 hF hf h1 HCY HCN HIN1 HOUT1
                go_wp2_with (at_lookup; refine wpList_lookup_own_ok_int _ rfl _ _ 39 rfl 32 2 .i64 (int_keyed Tryz.underlying32) Tryz.underlying39 Tryz.underlying2 (Tryz.zeroValue2 _) mb _ _ rfl hown6 _ _ rfl hkey.out ?_; intro cc hat hwc; obtain rfl := HA0.out cc hat; rw [HH.out]; clear hat hwc)
                go_roundw
                case rel => first | exact ⟨i + 1, by go_num, by omega, by rw [HC.out], HB6⟩ | (refine ⟨_, _, _, ?_, rfl, rfl, rfl⟩; exact ⟨i + 1, by go_num, by omega, by rw [HC.out], HB6⟩) | (refine ⟨_, _, _, _, ?_, rfl, rfl, rfl, rfl⟩; exact ⟨i + 1, by go_num, by omega, by rw [HC.out], HB6⟩) | (refine ⟨_, _, _, _, _, ?_, rfl, rfl, rfl, rfl, rfl⟩; exact ⟨i + 1, by go_num, by omega, by rw [HC.out], HB6⟩) | (refine ⟨_, _, _, _, _, _, ?_, rfl, rfl, rfl, rfl, rfl, rfl⟩; exact ⟨i + 1, by go_num, by omega, by rw [HC.out], HB6⟩)
                case measure => simp [intOf]; omega
            · obtain rfl : i = l.length := by omega
              rw [List.take_length]
              have HBZ := Lib.hid (HBR.out.trans (HBK.out.mono HBR.out.size))
              have hown6 := HOM.out.kept (grown_of13 HBK.out) (by simp)
              have hlen9 : (Builtin.len_ #[39] 3 #[.map (some mb)]).run Tryz.prog wr = .ok (.int .i64 ((l.filter (inX3 X1 X2)).length : Nat)) wr := by rw [hown6.len Tryz.underlying39 3, HKS.out]
              clear hown6
              generalize (l.filter (inX3 X1 X2)).length = g at *
              go_wp2_with (go_at_call 15; refine (AW.out _).mono ?_; rintro e w9 ⟨rfl, hb9⟩)
              go_ret
              exact ⟨rfl, HBZ.out.trans (hb9.mono HBZ.out.size)⟩
    · have cd := Lib.hid (heap_build_bad a c l w h (by omega) hw hu)
      clear hw hu hf
      go_enter Tryz.func4, Tryz.ntmps4
      go_wp2_with (first
        | (go_at_call 16; refine cd.out.mono ?_; rintro e w2 ⟨rfl, hb2⟩)
        | (go_at_call 15; refine (AW.out _).mono ?_; rintro e w3 ⟨rfl, hb3⟩))
      go_ret
      exact ⟨rfl, hb2.trans (hb3.mono hb2.size)⟩
  · have dl : decide (80 < (l.length : Int)) = true := by simp; omega
    go_enter Tryz.func4, Tryz.ntmps4
    go_wp2_with (go_at_call 15; refine (AW.out _).mono ?_; rintro e w3 ⟨rfl, hb3⟩)
    go_ret
    exact ⟨rfl, hb3⟩
end Go.Proofs.YtggfdlanobndjaaGreat
