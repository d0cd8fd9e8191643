/- The law CornerOver, walked. -/
import Derived.Test.YthpgkldpbbajfaaGreatL12o
import Derived.Test.YthpgkldpbbajfaaGreatQ8
import Derived.Maps.RangeWalk
import Derived.Deep.CutRange
namespace Go.Proofs.YthpgkldpbbajfaaGreat
open Go.RowKit Go.Maps
attribute [local irreducible] wpQuiet
set_option linter.unusedSimpArgs false
set_option linter.unusedVariables false

/-- the names of what is over a point -/
def ovN (l : List Pt) (p : Pt) : List Int := hasN l fun q => ovr q p
theorem id_inj {l : List Pt} (hu : (ids l).Nodup) {p q : Pt} (hp : p ∈ l) (hq : q ∈ l) (h : p.2.2 = q.2.2) : p = q := by
  obtain ⟨i, hi, rfl⟩ := List.getElem_of_mem hp
  obtain ⟨j, hj, rfl⟩ := List.getElem_of_mem hq
  have hn := List.pairwise_iff_getElem.1 hu
  rcases Nat.lt_trichotomy i j with hlt | rfl | hlt
  · exact absurd (by simpa [ids] using h) (hn i j (by simpa [ids] using hi) (by simpa [ids] using hj) hlt)
  · rfl
  · exact absurd (by simpa [ids] using h.symm) (hn j i (by simpa [ids] using hj) (by simpa [ids] using hi) hlt)
theorem hasN_nd {l : List Pt} (hu : (ids l).Nodup) (f : Pt → Bool) : (hasN l f).Nodup :=
  ((List.mergeSort_perm _ _).nodup_iff).2 (hu.sublist (List.Sublist.map _ List.filter_sublist))
theorem cntN {l : List Pt} (hu : (ids l).Nodup) (f : Pt → Bool) {r : Pt} (hr : r ∈ l) : (hasN l f).count r.2.2 = if f r = true then 1 else 0 := by
  have hm : r.2.2 ∈ hasN l f ↔ f r = true := by
    have h1 : r.2.2 ∈ hasN l f ↔ r.2.2 ∈ ids (l.filter f) := (List.mergeSort_perm _ _).mem_iff
    rw [h1]
    constructor
    · intro h
      obtain ⟨p, hp, e⟩ := List.mem_map.1 h
      have h2 := List.mem_filter.1 hp
      have h3 : p = r := id_inj hu h2.1 hr e
      rw [← h3]; exact h2.2
    · intro h
      exact List.mem_map.2 ⟨r, List.mem_filter.2 ⟨hr, h⟩, rfl⟩
  have h2 := List.nodup_iff_count.1 (hasN_nd hu f) r.2.2
  by_cases hf : f r = true
  · have h1 := List.one_le_count_iff.2 (hm.2 hf)
    rw [if_pos hf]; omega
  · rw [if_neg hf]
    exact List.count_eq_zero.2 fun h => hf (hm.1 h)
theorem ovr_self (p : Pt) : ovr p p = false := by simp [ovr]
theorem ovr_tr {r q p : Pt} (h1 : ovr r q = true) (h2 : ovr q p = true) : ovr r p = true := by
  simp only [ovr, Bool.and_eq_true, Bool.or_eq_true, decide_eq_true_eq] at *
  omega
theorem ovN_none {l : List Pt} {q : Pt} : ((ovN l q).length = 0) ↔ btn l q = false := by
  unfold ovN btn
  rw [hasN_len]
  constructor
  · intro h
    cases hb : l.any fun r => ovr r q
    · rfl
    · obtain ⟨r, hr, h2⟩ := List.any_eq_true.1 hb
      have : 0 < (l.filter fun r => ovr r q).length := List.length_pos_of_mem (List.mem_filter.2 ⟨hr, h2⟩)
      omega
  · intro h
    have : (l.filter fun r => ovr r q) = [] := List.filter_eq_nil_iff.2 fun r hr h2 => by
      have := List.any_eq_false.1 h r hr
      exact this h2
    rw [this]; rfl
/-- has a top been found -/
def topJ (l : List Pt) (p : Pt) (j : Nat) : Bool := decide ((ovN l p).length = 0) || (l.take j).any fun q => ovr q p && decide ((ovN l q).length = 0)
theorem topJ_zero (l : List Pt) (p : Pt) : topJ l p 0 = decide ((ovN l p).length = 0) := by simp [topJ]
theorem topJ_more {l : List Pt} {p : Pt} {j : Nat} (hj : j < l.length) : topJ l p (j + 1) = (topJ l p j || (ovr l[j] p && decide ((ovN l l[j]).length = 0))) := by
  unfold topJ
  rw [List.take_succ_eq_append_getElem hj, List.any_append]
  simp [Bool.or_assoc]
theorem topJ_all {l : List Pt} (hu : unl l = true) (p : Pt) : topJ l p l.length = true := by
  unfold topJ
  rw [List.take_length]
  have hS := skyOf_is ((unl_iff l).1 hu)
  cases hb : btn l p
  · simp [ovN_none.2 hb]
  · rw [← btn_sky hS] at hb
    obtain ⟨q, hq, h2⟩ := List.any_eq_true.1 hb
    obtain ⟨h3, h4⟩ := (hS.2 q).1 hq
    have h5 : (l.any fun q => ovr q p && decide ((ovN l q).length = 0)) = true := List.any_eq_true.2 ⟨q, h3, by simp only [h2, Bool.true_and, decide_eq_true_eq]; exact ovN_none.2 h4⟩
    rw [h5, Bool.or_true]

/-- the maps' answers of a point, in every later world -/
def LkP (w3 : World) (ob : Nat) (F : List Int) (pi : Int) (b : Nat) : Prop :=
  (∀ W, Below w3.heap.size w3 W → (Instr.lookup 38 (.map (some ob)) (.int .u32 pi) false).run Tryz.prog W = .ok (.map (some b)) W) ∧
  (∀ W, Below w3.heap.size w3 W → ∀ x, (Lit.int .u32 x).wf = true → (Instr.lookup 40 (.map (some b)) (.int .u32 x) false).run Tryz.prog W = .ok (.int .i64 (F.count x : Nat)) W) ∧
  (∀ W, Below w3.heap.size w3 W → (Builtin.len_ #[40] 3 #[.map (some b)]).run Tryz.prog W = .ok (.int .i64 (F.length : Nat)) W) ∧
  (∃ (m : Nat) (Dn : DataW Unit), (∀ W, Below w3.heap.size w3 W → W.ownsMap Tryz.prog 32 (plainElem Tryz.prog 3) b m Dn) ∧ ∀ x c : Int, (∀ zd, Dn.atKey (.int .u32 x) zd = .lit (.int .i64 c)) → x ∈ F)
theorem OvS.look {w3 : World} {ob n lo : Nat} {f : Pt → List Int} {done : List Pt} (h : OvS w3 ob n lo f done) {p : Pt} (hp : p ∈ done) (hnd : (f p).Nodup) (hwf : (Lit.int .u32 p.2.2).wf = true) : ∃ b, LkP w3 ob (f p) p.2.2 b := by
  obtain ⟨D, h1, h2, h3, h4⟩ := h
  obtain ⟨b, m, Dn, ks, g1, g2, g3, g4, g5⟩ := h4 p hp
  have hK : ∀ W, Below w3.heap.size w3 W → W.ownsMap Tryz.prog 32 (plainElem Tryz.prog 3) b m Dn := fun W hb => mapSameR g4 (hb.block _ g4.lt)
  refine ⟨b, fun W hb => ?_, fun W hb x hx => ?_, fun W hb => ?_, m, Dn, hK, fun x c hc => ?_⟩
  · exact ownsMap_look (mapSameR h1 (hb.block _ h1.lt)) (int_keyed Tryz.underlying32) Tryz.underlying38 (Tryz.zeroValue40 _) (keyOf_int_mk Tryz.underlying32 hwf) g1
  · obtain ⟨c, hrun, hat, -⟩ := (hK W hb).lookup_int (int_keyed Tryz.underlying32) Tryz.underlying40 Tryz.underlying3 (Tryz.zeroValue3 _) (keyOf_int_mk Tryz.underlying32 hx)
    rw [hrun, cnt_at12 g5 x c hat]
  · rw [(hK W hb).len Tryz.underlying40 3, g5.2.1]
    have : ks.length = (f p).length := nodup_same_len g5.2.2.1 hnd fun z => by
      rw [g5.2.2.2.1 z]
      unfold cntF
      by_cases hz : z ∈ f p <;> simp [hz]
    rw [this]
  · have e := (g5.2.2.2.2 x).2
    unfold cntF at e
    by_cases hx : x ∈ f p
    · exact hx
    · exfalso
      have e1 := e (.lit (.int .i64 (c + 1)))
      rw [hc] at e1
      simp [hx] at e1
      omega

set_option maxRecDepth 100000 in
set_option maxHeartbeats 8000000 in
theorem wCornerOver (a : Option Addr) (l : List Pt) (n c : Nat) (w : World) (hn : l.length = n) (h : RdK ePt 3 w a l) (hf : wfL l) :
    Calls Tryz.prog 4 #[.slice a n c] w fun e w' => e = .returned (.bool true) ∧ Below w.heap.size w w' := by
  subst hn
  have AW := Lib.hid (fun W => awake12 W)
  have HR := Lib.hid h
  have HWL := Lib.hid hf
  have hw : wfN l := fun p hp => (hf p hp).2.2
  clear h hf
  by_cases hlen : l.length ≤ 40
  · have dl : decide (40 < (l.length : Int)) = false := by simp; omega
    rcases Bool.eq_false_or_eq_true (unl l) with hu | hu
    · have cb1 := Lib.hid (coBuild a c l w HR.out (by omega) hw hu)
      have HN := Lib.hid ((unl_iff l).1 hu)
      have HW := Lib.hid hw
      have TA := Lib.hid (fun p => topJ_all hu p)
      clear hu hw
      go_enter Tryz.func4, Tryz.ntmps4
      go_wp2_with fail
      refine cb1.out.mono ?_
      rintro e w1 ⟨cb, rfl, T1, hb1⟩
      have HT1 := Lib.hid T1
      have HB1 := Lib.hid hb1
      clear T1 hb1 cb1
      go_wp2_with fail
      refine (over12 a l c HT1.out (HR.out.below HB1.out) HWL.out HN.out hlen).mono ?_
      rintro e w3 ⟨ob, rfl, O3, hb3⟩
      have HO := Lib.hid (fun p (hp : p ∈ l) => show ∃ b, LkP w3 ob (ovN l p) p.2.2 b from O3.look hp (hasN_nd HN.out _) (HWL.out p hp).2.2)
      have HT3 := Lib.hid (HT1.out.below hb3 HT1.out.hi_le)
      have HB3 := Lib.hid (HB1.out.trans (hb3.mono HB1.out.size))
      clear O3 hb3 HT1 HB1
      go_wp2
      go_loopw [34] (fun iv wr => ∃ i : Nat, iv = .int .i64 i ∧ i ≤ l.length ∧ Hid (Below w3.heap.size w3 wr)) (fun iv _ => l.length - (intOf iv).toNat)
      case atStart => exact ⟨0, rfl, Nat.zero_le _, Lib.hid (Below.refl _ _)⟩
      case round =>
        obtain ⟨i, rfl, hi, HB⟩ := hrel
        by_cases hil : i < l.length
        · obtain ⟨wo, ewo⟩ : ∃ wo : World, wo = wr := ⟨_, rfl⟩
          subst ewo
          have hb := HB.out
          obtain ⟨b9, off9, ea, hbl, hcs⟩ := (HR.out.below (HB3.out.trans (hb.mono HB3.out.size))).get (by omega)
          have x0 := hcs i hil 0 (by omega)
          have x1 := hcs i hil 1 (by omega)
          have x2 := hcs i hil 2 (by omega)
          simp only [ePt, List.getElem?_cons_zero, List.getElem?_cons_succ, Nat.add_zero] at x0 x1 x2
          have HPM : Hid (l[i] ∈ l) := List.getElem_mem hil
          have EA := Lib.hid ea
          clear hcs ea
          generalize l[i] = p at *
          obtain ⟨bp, hbp⟩ := HO.out p HPM.out
          have HLP := Lib.hid hbp
          have HUC : Hid (∀ q ∈ l, (hasN l (ovr p)).count q.2.2 = if ovr p q = true then 1 else 0) := fun q hq => cntN HN.out _ hq
          have HOC : Hid (∀ q ∈ l, (ovN l p).count q.2.2 = if ovr q p = true then 1 else 0) := fun q hq => cntN HN.out _ hq
          have HWK := Lib.hid (HWL.out p HPM.out)
          have FW := Lib.hid (hasN_wf HW.out (ovr p))
          have hgl := hasN_few12 l (ovr p)
          have CU := Lib.hid (fun W (hb : Below w3.heap.size w3 W) => coUnder (HT3.out.below hb HT3.out.hi_le) HWL.out p.1 p.2.1 p.2.2 HWK.out.1 HWK.out.2.1)
          obtain ⟨px, py, pi⟩ := p
          simp only at x0 x1 x2 CU hbp
          obtain rfl := EA.out
          clear EA hbp
          have hil2 : (i : Int) < (l.length : Int) := by omega
          obtain ⟨w4, ew4⟩ : ∃ w4, w4 = wo.alloc (.cells #[.int .i64 px, .int .i64 py, .int .u32 pi] 34) := ⟨_, rfl⟩
          have b4 : Below wo.heap.size wo w4 := by rw [ew4]; exact (Below.refl _ _).alloc (Nat.le_refl _) _
          have X4 : w4.heap[wo.heap.size]? = some (obP (px, py, pi)) := by rw [ew4]; exact lit0 _ _
          have EX := ew4.symm
          obtain ⟨y0, y1, y2⟩ := obP_cells X4
          simp only at y0 y1 y2
          have XH := Lib.hid X4
          have HB4 := Lib.hid (hb.trans (b4.mono hb.size))
          clear ew4 X4 hb b4 HB
          go_wp2_with fail
          have X4 := XH.out
          (try rw [EX])
          clear XH EX x0 x1 x2 y0 y1 y2
          refine (CU.out _ HB4.out).mono ?_
          rintro e w5 ⟨v5, c5, rfl, -, hown5, hb5⟩
          obtain ⟨a5, k5, rfl, -, -, -⟩ := Rd.of_owns hown5
          have HX5 := Lib.hid ((hb5.block _ (Array.getElem?_eq_some_iff.1 X4).1).trans X4)
          have HOW5 := Lib.hid hown5
          have HB5 := Lib.hid (HB4.out.trans (hb5.mono HB4.out.size))
          clear hown5 hb5 X4 HB4 CU
          generalize wo.heap.size = pb at *
          generalize hasN l (ovr (px, py, pi)) = U at *
          have hmm := @run_makeMap Tryz.prog
          obtain ⟨w6, ew6⟩ : ∃ w6, w6 = w5.alloc (.map #[] 0) := ⟨_, rfl⟩
          have b6 : Below w5.heap.size w5 w6 := by rw [ew6]; exact (Below.refl _ _).alloc (Nat.le_refl _) _
          have hm6 : w6.ownsMap Tryz.prog 32 (plainElem Tryz.prog 3) w5.heap.size 0 (.map [] : DataW Unit) := by rw [ew6]; exact World.ownsMap_made _ _ _ _
          have EX6 := ew6.symm
          have HM6 : Hid (∃ (Dn : DataW Unit) (ks : List Int), w6.ownsMap Tryz.prog 32 (plainElem Tryz.prog 3) w5.heap.size 0 Dn ∧ IsM .u32 .i64 Dn (cntF (U.take 0)) ks) := ⟨_, _, hm6, by rw [List.take_zero, cntF_nil]; exact IsM.empty _ _⟩
          have HB56 := Lib.hid b6
          have hs6 : w5.heap.size < w6.heap.size := hm6.lt
          have hpb := (Array.getElem?_eq_some_iff.1 HX5.out).1
          have hs35 := HB5.out.size
          clear ew6 b6 hm6
          go_wp2
          (try rw [EX6])
          clear hmm EX6
          go_loopw [47] (fun jv wr => ∃ j : Nat, jv = .int .i64 j ∧ j ≤ U.length ∧ Hid (KpS (fun k => k = w5.heap.size) w6 wr) ∧ Hid (∃ (Dn : DataW Unit) (ks : List Int), wr.ownsMap Tryz.prog 32 (plainElem Tryz.prog 3) w5.heap.size j Dn ∧ IsM .u32 .i64 Dn (cntF (U.take j)) ks)) (fun jv _ => U.length - (intOf jv).toNat)
          case atStart => exact ⟨0, rfl, Nat.zero_le _, Lib.hid (KpS.refl _ _), HM6⟩
          case round =>
            obtain ⟨j, rfl, hj, HK, HM⟩ := hrel
            by_cases hjl : j < U.length
            · have K5 : KpS (fun k => k = w5.heap.size) w5 wr := ((KpS.refl _ w5).below HB56.out).trans HK.out
              have RR := rowK HOW5.out K5 (fun gb e h => by have h2 := (HOW5.out.lt gb e).2; omega)
              obtain ⟨a9, k9, e9, -, -, hr9⟩ := Rd.of_owns RR
              injection e9 with e9 _ _
              obtain ⟨b, off, ea, hbl, hcs⟩ := hr9.get (by omega)
              have x0 := hcs j hjl
              have et : U.take (j + 1) = U.take j ++ [U[j]] := List.take_succ_eq_append_getElem hjl
              have hkey : Hid (keyOf Tryz.prog 32 (.int .u32 U[j]) = some (.int .u32 U[j])) := Lib.hid (keyOf_int_mk Tryz.underlying32 (FW.out _ (List.getElem_mem _)))
              obtain ⟨Dn, ks, hown0, hD⟩ := HM.out
              have hcnt : List.count U[j] (U.take j) ≤ 600 := Nat.le_trans List.count_le_length (by rw [List.length_take]; omega)
              have hat0 : ∀ cc : Int, Dn.atKey (.int .u32 U[j]) (.lit (.int .i64 0)) = .lit (.int .i64 cc) → cc = (List.count U[j] (U.take j) : Nat) := fun cc hcc => (cnt_at12 hD _ cc hcc).symm
              have HD2 := hD.put U[j] ((List.count U[j] (U.take j) : Nat) + 1)
              rw [← cntF_snoc, ← et] at HD2
              have HD := Lib.hid HD2
              have HA0 := Lib.hid hat0
              have EA := Lib.hid (e9.trans ea)
              have hkl2 : (j : Int) < (U.length : Int) := by omega
              clear HM et hcs HD2 hD hat0 ea RR hr9 e9 K5
              generalize List.count U[j] (U.take j) = cn at *
              generalize U[j] = m at *
              obtain rfl := EA.out
              clear EA
              have hTj : j < maxLen := by unfold maxLen; omega
              go_wp2_with (first | (at_lookup; refine wpList_lookup_own_int _ rfl _ _ 40 rfl 32 3 .i64 (int_keyed Tryz.underlying32) Tryz.underlying40 Tryz.underlying3 (Tryz.zeroValue3 _) w5.heap.size j _ rfl hown0 _ _ rfl hkey.out ?_; intro cc hat _; obtain rfl := HA0.out cc hat; clear hat) | (at_mapUpdate; refine wpList_mapUpdate_own _ rfl _ _ _ 40 rfl 32 3 (int_keyed Tryz.underlying32) Tryz.underlying40 _ w5.heap.size j _ rfl hown0 hTj _ _ _ rfl rfl hkey.out _ [] (plainElem_int Tryz.underlying3 (by simp [Lit.wf, IntKind.min, IntKind.max, IntKind.bits, IntKind.signed]; omega)) ?_; intro w33 hown3 hgrow3))
              have HM8 : Hid (∃ (D : DataW Unit) (ks : List Int), w33.ownsMap Tryz.prog 32 (plainElem Tryz.prog 3) w5.heap.size (j + 1) D ∧ IsM .u32 .i64 D (cntF (U.take (j + 1))) ks) := ⟨_, _, hown3, HD.out⟩
              have HM7 : Hid (∃ (D : DataW Unit), w33.ownsMap Tryz.prog 32 (plainElem Tryz.prog 3) w5.heap.size (j + 1) D ∧ ∃ ks, IsM .u32 .i64 D (cntF (U.take (j + 1))) ks) := ⟨_, hown3, _, HD.out⟩
              have HK9 := Lib.hid (HK.out.grown hgrow3 (fun k hk => .inl (by injection hk with hk; exact hk.symm)))
              go_roundw
              case rel => first | exact ⟨j + 1, by go_num, by omega, HK9, by first | exact HM8 | exact HM7⟩ | ((repeat apply Exists.intro); exact ⟨⟨j + 1, by go_num, by omega, HK9, by first | exact HM8 | exact HM7⟩, rfl⟩)
              case measure => simp [intOf]; omega
            · obtain rfl : j = U.length := by omega
              rw [List.take_length] at HM
              obtain ⟨DU, kU, hownU, hDU⟩ := HM.out
              obtain ⟨wA, ewA⟩ : ∃ wA : World, wA = wr := ⟨_, rfl⟩
              subst ewA
              have hBA : Below w3.heap.size w3 wA := (HB5.out.trans (HB56.out.mono hs35)).trans (HK.out.toBelow (Nat.le_trans hs35 (Nat.le_of_lt hs6)) (fun k h => by omega))
              have HBA := Lib.hid hBA
              have XA := blkK HK.out ((HB56.out.block _ hpb).trans HX5.out) (by omega)
              have HXA := Lib.hid XA
              have HIN : Hid (∀ W, Below wA.heap.size wA W → ∀ x, (Lit.int .u32 x).wf = true → (Instr.lookup 40 (.map (some w5.heap.size)) (.int .u32 x) false).run Tryz.prog W = .ok (.int .i64 (U.count x : Nat)) W) := fun W hb x hx => by
                obtain ⟨c, hrun, hat, -⟩ := (mapSameR hownU (hb.block _ hownU.lt)).lookup_int (int_keyed Tryz.underlying32) Tryz.underlying40 Tryz.underlying3 (Tryz.zeroValue3 _) (keyOf_int_mk Tryz.underlying32 hx)
                rw [hrun, cnt_at12 hDU x c hat]
              have e1 := HLP.out.1 wA hBA
              have e2 := HLP.out.2.2.1 wA hBA
              have hsA := hBA.size
              clear HM hownU hDU HK HM6 HX5 HOW5 FW HB5 HB56 hBA
              obtain ⟨y0, y1, y2⟩ := obP_cells XA
              simp only at y0 y1 y2 e1
              clear XA
              have HTP := Lib.hid (TA.out (px, py, pi))
              have HTS : Hid (∀ j (hj : j < l.length), topJ l (px, py, pi) (j + 1) = (topJ l (px, py, pi) j || (ovr l[j] (px, py, pi) && decide ((ovN l l[j]).length = 0)))) := fun j hj => topJ_more hj
              obtain ⟨T0, hT0⟩ : ∃ T0, T0 = topJ l (px, py, pi) 0 := ⟨_, rfl⟩
              have hso : (((ovN l (px, py, pi)).length : Int) == 0) = T0 := by
                rw [hT0, topJ_zero]
                by_cases h : (ovN l (px, py, pi)).length = 0 <;> simp [h]
              have HT0 := Lib.hid hT0
              have HOL : Hid (ovN l (px, py, pi) = ovN l (px, py, pi)) := rfl
              clear hT0
              generalize (ovN l (px, py, pi)).length = gp at *
              go_wp2
              clear hso e1 e2 y0 y1 y2
              go_loopw [13, 64] (fun tv jv wr => ∃ j : Nat, jv = .int .i64 j ∧ j ≤ l.length ∧ tv = .bool (topJ l (px, py, pi) j) ∧ Hid (Below wA.heap.size wA wr)) (fun _ jv _ => l.length - (intOf jv).toNat)
              case atStart => exact ⟨0, rfl, Nat.zero_le _, by rw [← HT0.out], Lib.hid (Below.refl _ _)⟩
              case round =>
                obtain ⟨j, rfl, hj, rfl, HBJ⟩ := hrel
                by_cases hjl : j < l.length
                · have hbj := HBJ.out
                  obtain ⟨b8, off8, ea8, hbl8, hcs8⟩ := (HR.out.below (HB3.out.trans ((HBA.out.trans (hbj.mono hsA)).mono HB3.out.size))).get (by omega)
                  have x0 := hcs8 j hjl 0 (by omega)
                  have x1 := hcs8 j hjl 1 (by omega)
                  have x2 := hcs8 j hjl 2 (by omega)
                  simp only [ePt, List.getElem?_cons_zero, List.getElem?_cons_succ, Nat.add_zero] at x0 x1 x2
                  obtain ⟨rfl, rfl⟩ : b9 = b8 ∧ off9 = off8 := by simpa using ea8
                  have HQM : Hid (l[j] ∈ l) := List.getElem_mem hjl
                  have HTJ := Lib.hid (HTS.out j hjl)
                  clear hcs8 ea8
                  generalize l[j] = q at *
                  obtain ⟨bq, hbq⟩ := HO.out q HQM.out
                  have HLQ := Lib.hid hbq
                  have c1 := HUC.out q HQM.out
                  have c2 := cntN HN.out (fun r => ovr r q) HPM.out
                  have c3 := HOC.out q HQM.out
                  have hwq := (HWL.out q HQM.out).2.2
                  have HXX : Hid (∀ x, x ∈ ovN l q → ovr q (px, py, pi) = true → (ovN l (px, py, pi)).count x = 1 ∧ (Lit.int .u32 x).wf = true) := fun x hx hov => by
                    have h1 : x ∈ ids (l.filter fun r => ovr r q) := (List.mergeSort_perm _ _).mem_iff.1 hx
                    obtain ⟨r, hr, rfl⟩ := List.mem_map.1 h1
                    obtain ⟨h2, h3⟩ := List.mem_filter.1 hr
                    have h4 := HOC.out r h2
                    rw [if_pos (ovr_tr h3 hov)] at h4
                    exact ⟨h4, (HWL.out r h2).2.2⟩
                  have HAB : Hid (ovr q (px, py, pi) = true → ovr (px, py, pi) q = false) := fun h => by
                    cases h9 : ovr (px, py, pi) q
                    · rfl
                    · have := ovr_tr h h9
                      rw [ovr_self] at this
                      cases this
                  have c2 : (ovN l q).count pi = if ovr (px, py, pi) q = true then 1 else 0 := c2
                  obtain ⟨q1, q2, q3⟩ := q
                  simp only at x0 x1 x2 hwq c1 c3
                  have hjl2 : (j : Int) < (l.length : Int) := by omega
                  obtain ⟨w7, ew7⟩ : ∃ w7, w7 = wr.alloc (.cells #[.int .i64 q1, .int .i64 q2, .int .u32 q3] 34) := ⟨_, rfl⟩
                  have b7 : Below wr.heap.size wr w7 := by rw [ew7]; exact (Below.refl _ _).alloc (Nat.le_refl _) _
                  have X7 : w7.heap[wr.heap.size]? = some (obP (q1, q2, q3)) := by rw [ew7]; exact lit0 _ _
                  have B7 := hbj.trans (b7.mono hbj.size)
                  have XP := (B7.block _ (Array.getElem?_eq_some_iff.1 HXA.out).1).trans HXA.out
                  have B37 := HBA.out.trans (B7.mono hsA)
                  have HB7 := Lib.hid B7
                  have HB37 := Lib.hid B37
                  have HX7 := Lib.hid X7
                  have HXP := Lib.hid XP
                  have EX := ew7.symm
                  obtain ⟨z0, z1, z2⟩ := obP_cells X7
                  obtain ⟨v0, v1, v2⟩ := obP_cells XP
                  simp only at z0 z1 z2 v0 v1 v2
                  have f1 := HIN.out w7 B7 q3 hwq
                  rw [c1] at f1
                  have f2 := HLQ.out.1 w7 B37
                  have f3 := HLQ.out.2.1 w7 B37 pi HWK.out.2.2
                  rw [c2] at f3
                  have f4 := HLP.out.1 w7 B37
                  have f5 := HLP.out.2.1 w7 B37 q3 hwq
                  rw [c3] at f5
                  have f6 := HLQ.out.2.2.1 w7 B37
                  simp only at f2 f4
                  clear ew7 b7 X7 XP B7 B37 hbj hbq c1 c2 c3
                  cases hB : ovr (q1, q2, q3) (px, py, pi)
                  · rw [hB, if_neg (by decide)] at f5
                    have HTE : Hid (topJ l (px, py, pi) (j + 1) = topJ l (px, py, pi) j) := by show _ = _; rw [HTJ.out, hB, Bool.false_and, Bool.or_false]
                    clear HAB HXX hB
                    generalize topJ l (px, py, pi) j = tj at *
                    cases hA : ovr (px, py, pi) (q1, q2, q3)
                    all_goals
                      rw [hA] at f1 f3
                      simp only [if_true, if_false, Bool.false_eq_true, Int.natCast_zero, Int.natCast_one] at f1 f3 f5
                      clear hA
                      go_wp2
                      go_roundw
                      case rel => exact ⟨j + 1, by go_num, by omega, by rw [HTE.out], HB7⟩
                      case measure => simp [intOf]; omega
                  · have hA := HAB.out hB
                    rw [hB] at f5
                    rw [hA] at f1 f3
                    simp only [if_true, if_false, Bool.false_eq_true, Int.natCast_zero, Int.natCast_one] at f1 f3 f5
                    have HTE : Hid (topJ l (px, py, pi) (j + 1) = (topJ l (px, py, pi) j || decide ((ovN l (q1, q2, q3)).length = 0))) := by show _ = _; rw [HTJ.out, hB, Bool.true_and]
                    have HXB : Hid (∀ x, x ∈ ovN l (q1, q2, q3) → (ovN l (px, py, pi)).count x = 1 ∧ (Lit.int .u32 x).wf = true) := fun x hx => HXX.out x hx hB
                    clear hA hB HAB HXX
                    go_upto_region 24 with fail
                    go_cut [13] from 97 to 105 (fun tv wx => tv = .bool (topJ l (px, py, pi) (j + 1)) ∧ wx = w7)
                    case first =>
                      (try rw [EX])
                      obtain ⟨G, hG⟩ : ∃ G, (((ovN l (q1, q2, q3)).length : Int) == 0) = G := ⟨_, rfl⟩
                      have hG2 : decide ((ovN l (q1, q2, q3)).length = 0) = G := by rw [← hG]; by_cases h : (ovN l (q1, q2, q3)).length = 0 <;> simp [h]
                      rw [hG2] at HTE
                      have HTE' := HTE
                      clear hG2 HTE
                      generalize (ovN l (q1, q2, q3)).length = gq at *
                      generalize topJ l (px, py, pi) (j + 1) = t2 at *
                      generalize topJ l (px, py, pi) j = tj at *
                      cases tj
                      all_goals
                        go_wp2
                        go_meet
                        exact ⟨by rw [HTE'.out]; rfl, rfl⟩
                    case rest =>
                      obtain ⟨rfl, rfl⟩ := hcut
                      obtain ⟨m, Dn, hDn, hDm⟩ := HLQ.out.2.2.2
                      have hownq := hDn wc HB37.out
                      have HDM := Lib.hid hDm
                      have hBlt := HB37.out.size
                      clear hDn hDm f1 f3 f4 f5 f6 v0 v1 v2
                      go_wp2_with (at_range; refine wpList_range_own _ rfl _ 40 rfl 32 3 (int_keyed Tryz.underlying32) Tryz.underlying40 _ bq m Dn rfl hownq ?_; intro w8 hrg8 hg8 hs8)
                      (try go_frame)
                      have HG8 := Lib.hid (show Below wc.heap.size wc w8 from ⟨hg8.os, hg8.tape, hg8.output, hg8.size, fun k hk => hg8.block k hk (by simp)⟩)
                      have HR8 := Lib.hid hrg8
                      clear hrg8 hg8 hownq f2 z0 z1 z2
                      go_loopw [16] (fun _ wr => ∃ (left : Lit → Bool) (cnt : Nat), Hid (wr.ranges Tryz.prog 32 (plainElem Tryz.prog 3) bq wc.heap.size m Dn left cnt) ∧ Hid (KpS (fun k => k = wc.heap.size) w8 wr)) (fun _ wr => wr.rangeLeft bq wc.heap.size)
                      case atStart => exact ⟨_, _, HR8, Lib.hid (KpS.refl _ _)⟩
                      case round =>
                        obtain ⟨left, cnt, HRG, HK⟩ := hrel
                        have hrg := HRG.out
                        have HBW : Hid (Below wc.heap.size wc wr) := Lib.hid (HG8.out.trans (HK.out.toBelow HG8.out.size (fun k h => Nat.le_of_eq h.symm)))
                        go_wp2_with (at_next; refine wpList_next_ranges_ii _ rfl _ rfl 32 3 .u32 .i64 (int_keyed Tryz.underlying32) Tryz.underlying32 Tryz.underlying3 bq wc.heap.size m Dn left cnt rfl hrg (fun hc0 hl0 => ?_) (fun x c w9 cnt9 hwx hwc hlx hat hrg9 hlt9 hg9 hs9 hen => ?_); rotate_left 1; (have HK9 := Lib.hid (HK.out.grown hg9 (fun k hk => .inl (by injection hk with hk; exact hk.symm))); have B9 : Below wc.heap.size wc w9 := HG8.out.trans (HK9.out.toBelow HG8.out.size (fun k h => Nat.le_of_eq h.symm)); have B39 := HB37.out.trans (B9.mono hBlt); have XP9 := (B9.block _ (Array.getElem?_eq_some_iff.1 HXP.out).1).trans HXP.out; obtain ⟨v0, v1, v2⟩ := obP_cells XP9; (try simp only at v0 v1 v2); have g4 := HLP.out.1 w9 B39; (try simp only at g4); have g5 := HLP.out.2.1 w9 B39 x hwx; rw [(HXB.out x (HDM.out x c hat)).1] at g5; (try simp only [Int.natCast_one] at g5); have HR9 := Lib.hid hrg9; clear hrg9 B9 B39 XP9 hg9))
                        · exact ⟨⟨_, _, HR9, HK9⟩, by rw [HR9.out.left_eq, hrg.left_eq]; omega⟩
                        · have HBF := Lib.hid (HB7.out.trans (HBW.out.mono HB7.out.size))
                          go_roundw
                          case rel => first | exact ⟨j + 1, by go_num, by omega, rfl, HBF⟩ | ((repeat apply Exists.intro); exact ⟨⟨j + 1, by go_num, by omega, rfl, HBF⟩, rfl⟩)
                          case measure => simp [intOf]; omega
                · obtain rfl : j = l.length := by omega
                  rw [HTP.out]
                  have hb := HBJ.out
                  have B3 := HBA.out.trans (hb.mono hsA)
                  have XP := (hb.block _ (Array.getElem?_eq_some_iff.1 HXA.out).1).trans HXA.out
                  obtain ⟨v0, v1, v2⟩ := obP_cells XP
                  simp only at v0 v1 v2
                  have f4 := HLP.out.1 wr B3
                  have f5 := HLP.out.2.1 wr B3 pi HWK.out.2.2
                  have hc5 := HOC.out (px, py, pi) HPM.out
                  rw [ovr_self, if_neg (by decide)] at hc5
                  simp only at f4 hc5
                  rw [hc5] at f5
                  simp only [Int.natCast_zero] at f5
                  have HB3' := Lib.hid B3
                  clear hc5 hb B3 XP
                  go_wp2
                  go_roundw
                  case rel => exact ⟨i + 1, by go_num, by omega, HB3'⟩
                  case measure => simp [intOf]; omega
        · obtain rfl : i = l.length := by omega
          have HBZ := Lib.hid (HB3.out.trans (HB.out.mono HB3.out.size))
          go_wp2_with (go_at_call 20; refine (AW.out _).mono ?_; rintro e w9 ⟨rfl, hb9⟩)
          go_ret
          exact ⟨rfl, HBZ.out.trans (hb9.mono HBZ.out.size)⟩
    · have cb1 := Lib.hid (coBuild_bad a c l w HR.out (by omega) hw hu)
      go_enter Tryz.func4, Tryz.ntmps4
      go_wp2_with fail
      refine cb1.out.mono ?_
      rintro e w2 ⟨rfl, hb2⟩
      go_wp2_with (go_at_call 20; refine (AW.out _).mono ?_; rintro e w3 ⟨rfl, hb3⟩)
      go_ret
      exact ⟨rfl, hb2.trans (hb3.mono hb2.size)⟩
  · have dl : decide (40 < (l.length : Int)) = true := by simp; omega
    go_enter Tryz.func4, Tryz.ntmps4
    go_wp2_with (go_at_call 20; refine (AW.out _).mono ?_; rintro e w3 ⟨rfl, hb3⟩)
    go_ret
    exact ⟨rfl, hb3⟩
end Go.Proofs.YthpgkldpbbajfaaGreat
