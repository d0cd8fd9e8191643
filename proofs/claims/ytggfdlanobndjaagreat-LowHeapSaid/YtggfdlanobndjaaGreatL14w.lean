/- gridironlaw14: Same, lows, asked, awake. -/
import Derived.Test.YtggfdlanobndjaaGreatQ6
import Derived.Test.YtggfdlanobndjaaGreatLow
import Derived.Test.YtggfdlanobndjaaGreatLiftS
import Derived.Test.YtggfdlanobndjaaGreatQ7
namespace Go.Proofs.YtggfdlanobndjaaGreat
open Go.RowKit Go.Maps
attribute [local irreducible] wpQuiet
attribute [local go_sem] Oper.still1
set_option linter.unusedSimpArgs false
set_option linter.unusedVariables false

theorem takeP_more14 {α : Type} (l l' : List α) (k : Nat) (h : l.take k = l'.take k) (h1 : k < l.length) (h2 : k < l'.length) (he : l[k] = l'[k]) : l.take (k + 1) = l'.take (k + 1) := by
  rw [List.take_succ_eq_append_getElem h1, List.take_succ_eq_append_getElem h2, h, he]

set_option maxRecDepth 100000 in
set_option maxHeartbeats 4000000 in
theorem same14 (a a' : Option Addr) (l l' : List Pt) (n n' c c' : Nat) (w : World) (hn : l.length = n) (hn' : l'.length = n') (h : RdK ePt 3 w a l) (h' : RdK ePt 3 w a' l') (hl : n ≤ 1000000) (hl' : n' ≤ 1000000) :
    Calls Tryz.prog 38 #[.slice a n c, .slice a' n' c'] w fun e w' => e = .returned (.bool (decide (l = l'))) ∧ Below w.heap.size w w' := by
  subst hn hn'
  have HR := Lib.hid h
  have HR' := Lib.hid h'
  clear h h'
  generalize hr : decide (l = l') = r
  have HRR := Lib.hid hr
  clear hr
  by_cases hln : l.length = l'.length
  · have dl : ((l.length : Int) != (l'.length : Int)) = false := by simp [hln]
    have HLN := Lib.hid hln
    go_enter Tryz.func38, Tryz.ntmps38
    go_wp2
    go_loopw [13] (fun iv wr => ∃ k : Nat, iv = .int .i64 k ∧ k ≤ l.length ∧ Below w.heap.size w wr ∧ Hid (l.take k = l'.take k)) (fun iv _ => l.length - (intOf iv).toNat)
    case atStart => exact ⟨0, rfl, Nat.zero_le _, Below.refl _ _, rfl⟩
    case round =>
      obtain ⟨k, rfl, hk, hb, INV⟩ := hrel
      by_cases hlt : k < l.length
      · have hlt' : k < l'.length := by omega
        obtain ⟨b, off, ea, hbl, hcs⟩ := (HR.out.below hb).get (by omega)
        obtain ⟨b', off', ea', hbl', hcs'⟩ := (HR'.out.below hb).get (by omega)
        have x0 := hcs k hlt 0 (by omega)
        have x1 := hcs k hlt 1 (by omega)
        have x2 := hcs k hlt 2 (by omega)
        have y0 := hcs' k hlt' 0 (by omega)
        have y1 := hcs' k hlt' 1 (by omega)
        have y2 := hcs' k hlt' 2 (by omega)
        simp only [ePt, List.getElem?_cons_zero, List.getElem?_cons_succ, Nat.add_zero] at x0 x1 x2 y0 y1 y2
        have hkl : (k : Int) < (l.length : Int) := by omega
        have hkl' : (k : Int) < (l'.length : Int) := by omega
        have HNE : l[k] ≠ l'[k] → r = false := fun hne => by
          rw [← HRR.out]
          simp only [decide_eq_false_iff_not]
          intro e
          subst e
          exact hne rfl
        have HYE : l[k] = l'[k] → Hid (l.take (k + 1) = l'.take (k + 1)) := fun he => takeP_more14 l l' k INV.out hlt hlt' he
        have EA := Lib.hid ea
        have EA' := Lib.hid ea'
        clear hcs hcs' ea ea'
        generalize l[k] = p at *
        generalize l'[k] = q at *
        obtain ⟨px, py, pi⟩ := p
        obtain ⟨qx, qy, qi⟩ := q
        simp only at x0 x1 x2 y0 y1 y2
        obtain rfl := EA.out
        obtain rfl := EA'.out
        clear EA EA'
        by_cases h0 : px = qx
        · have d0 : (px == qx) = true := by simp [h0]
          by_cases h1 : py = qy
          · have d1 : (py == qy) = true := by simp [h1]
            by_cases h2 : pi = qi
            · have d2 : (pi == qi) = true := by simp [h2]
              have I2 := HYE (by rw [h0, h1, h2])
              clear h0 h1 h2 HNE HYE INV hln
              go_wp2
              go_region
              all_goals
                go_wp2
                go_roundw
                case rel => exact ⟨k + 1, by go_num, by omega, hb.drew, I2⟩
                case measure => simp [intOf]; omega
            · have hr := HNE (fun e => h2 (by injection e with _ e; injection e))
              subst hr
              clear h0 h1 HNE HYE HRR hln
              have d2 : (pi == qi) = false := by simp [h2]
              clear h2 INV
              go_wp2
              go_region
              all_goals
                go_wp2
                go_ret
                exact ⟨rfl, hb.drew⟩
          · have hr := HNE (fun e => h1 (by injection e with _ e; injection e))
            subst hr
            clear h0 HNE HYE HRR hln
            have d1 : (py == qy) = false := by simp [h1]
            clear h1 INV
            go_wp2
            go_region
            all_goals
              go_wp2
              go_ret
              exact ⟨rfl, hb.drew⟩
        · have hr := HNE (fun e => h0 (by injection e))
          subst hr
          clear HNE HYE HRR hln
          have d0 : (px == qx) = false := by simp [h0]
          clear h0 INV
          go_wp2
          go_region
          all_goals
            go_wp2
            go_ret
            exact ⟨rfl, hb.drew⟩
      · have hr : r = true := by
          rw [← HRR.out]
          have hk2 : k = l.length := by omega
          have := INV.out
          rw [hk2, List.take_length, HLN.out, List.take_length] at this
          simpa using this
        subst hr
        clear HRR
        go_wp2
        go_ret
        exact ⟨rfl, hb⟩
  · have dl : ((l.length : Int) != (l'.length : Int)) = true := by simp; omega
    have hr : r = false := by
      rw [← HRR.out]
      simp only [decide_eq_false_iff_not]
      intro e
      exact hln (by rw [e])
    subst hr
    clear HRR
    go_enter Tryz.func38, Tryz.ntmps38
    go_wp2
    go_ret
    exact ⟨rfl, Below.refl _ _⟩

/-- lows: does a tree tell just these? -/
def lowsQ (l : List Pt) (x1 x2 K : Int) (M : List Pt) : Bool := decide ((lws l x1 x2).take K.toNat = M)
set_option maxRecDepth 100000 in
set_option maxHeartbeats 2000000 in
theorem lows14 {w : World} {lo hi tb n0 : Nat} {l : List Pt} (hT : LowAt w lo hi tb n0 l) (x1 x2 K : Int) (a' : Option Addr) (M : List Pt) (n' c' : Nat) (hn' : M.length = n') (h' : RdK ePt 3 w a' M) (hl' : n' ≤ 1000000) :
    Calls Tryz.prog 72 #[.pointer (some ⟨tb, 0, none⟩), .int .i64 x1, .int .i64 x2, .int .i64 K, .slice a' n' c'] w fun e w' => e = .returned (.bool (lowsQ l x1 x2 K M)) ∧ Below w.heap.size w w' := by
  subst hn'
  have few := hT.few2
  obtain ⟨S, hS⟩ : ∃ S, S = lws l x1 x2 := ⟨_, rfl⟩
  have hSl : S.length ≤ 20000 := by rw [hS]; exact Nat.le_trans (lws_len l x1 x2) (by omega)
  unfold lowsQ
  rw [← hS]
  have HS := Lib.hid hS
  have HT := Lib.hid hT
  have H' := Lib.hid h'
  clear hT h' hS
  generalize hres : decide (S.take K.toNat = M) = res
  have HRES := Lib.hid hres
  clear hres
  go_enter Tryz.func72, Tryz.ntmps72
  go_wp2_with fail
  refine (lLows HT.out x1 x2 K).mono ?_
  rintro e w2 ⟨⟨v2, c2, L, hL, rfl, hown2, -, -⟩, hb2⟩
  obtain ⟨a2, k2, rfl, -, -, hr2⟩ := RdK.of_owns ePt_len (by decide) hown2
  rw [← HS.out] at hL
  have HL := Lib.hid hL
  have hLl : L.length ≤ 20000 := by rw [hL, List.length_take]; omega
  have HT2 := Lib.hid (HT.out.below hb2 HT.out.hi_le)
  have HB2 := Lib.hid hb2
  have HR2 := Lib.hid hr2
  clear hb2 hr2 hown2 HT hL
  go_wp2_with fail
  refine (lLowest HT2.out x1 x2).mono ?_
  rintro e w3 ⟨⟨p, hp, c3, rfl, -⟩, hb3⟩
  rw [← HS.out] at hp ⊢
  have HP := Lib.hid hp
  have hb3' := HB2.out.trans (hb3.mono HB2.out.size)
  have hr3 := HR2.out.below hb3
  obtain ⟨p1, p2, p3⟩ := p
  obtain ⟨w4, ew4⟩ : ∃ w4, w4 = w3.alloc (.cells #[.int .i64 p1, .int .i64 p2, .int .u32 p3] 34) := ⟨_, rfl⟩
  have hb4 : Below w3.heap.size w3 w4 := by rw [ew4]; exact (Below.refl _ _).alloc (Nat.le_refl _) _
  have hx4 : w4.heap[w3.heap.size]? = some (obP (p1, p2, p3)) := by rw [ew4]; exact lit0 w3 _
  obtain ⟨y0, y1, y2⟩ := obP_cells hx4
  simp only at y0 y1 y2
  have EW := Lib.hid ew4
  have HB4 := Lib.hid (hb3'.trans (hb4.mono hb3'.size))
  have HR4 := Lib.hid (hr3.below hb4)
  have H4 := Lib.hid (H'.out.below HB4.out)
  clear hp hb3 hb3' hr3 ew4 hb4 hx4 HR2 HB2 HT2 H'
  have CS := Lib.hid (fun W (hb : Below w4.heap.size w4 W) => same14 a2 a' L M L.length M.length k2 c' W rfl rfl (HR4.out.below hb) (H4.out.below hb) (by omega) hl')
  obtain ⟨fd, hfd⟩ : ∃ fd, fd = S.head?.isSome := ⟨_, rfl⟩
  rw [← hfd]
  go_upto_region 3 with fail
  rw [← EW.out]
  clear EW
  by_cases hK : K ≤ 0
  · have d0 : decide (0 < K) = false := by simp; omega
    have hr : decide (L = M) = res := by rw [← HRES.out, HL.out]
    rw [hr] at CS
    clear hr hK
    go_quiet (fail)
    go_wp2_with fail
    refine (CS.out _ (Below.drewAny _ _)).mono ?_
    rintro e w5 ⟨rfl, hb5⟩
    have HB5 := Lib.hid (HB4.out.trans (((Below.drewAny _ _).trans hb5).mono HB4.out.size))
    clear hb5
    go_wp2
    go_ret
    exact ⟨rfl, HB5.out⟩
  · have d0 : decide (0 < K) = true := by simp; omega
    obtain ⟨k, hk⟩ : ∃ k, K.toNat = k + 1 := ⟨K.toNat - 1, by omega⟩
    clear hK
    cases S with
    | nil =>
      have hfd' : fd = false := hfd
      subst hfd'
      have hp := HP.out
      simp only [List.head?_nil, Option.getD_none, Prod.mk.injEq] at hp
      obtain ⟨rfl, rfl, rfl⟩ := hp
      have hl0 : L = [] := by rw [HL.out, List.take_nil]
      cases M with
      | nil =>
        have hr : decide (L = ([] : List Pt)) = res := by rw [← HRES.out, HL.out]
        rw [hr] at CS
        clear hr hk hfd hl0
        simp only [List.length_nil] at *
        go_quiet (fail)
        go_wp2_with fail
        refine (CS.out _ (Below.drewAny _ _)).mono ?_
        rintro e w5 ⟨rfl, hb5⟩
        have HB5 := Lib.hid (HB4.out.trans (((Below.drewAny _ _).trans hb5).mono HB4.out.size))
        clear hb5
        go_wp2
        go_ret
        exact ⟨rfl, HB5.out⟩
      | cons m M =>
        have hr : res = false := by rw [← HRES.out, decide_eq_false_iff_not, hk]; simp
        subst hr
        have d1 : decide ((0 : Int) < ((m :: M).length : Int)) = true := by first | (simp; done) | (simp; omega)
        have d2 : decide ((0 : Int) < (M.length : Int) + 1) = true := by first | (simp; done) | (simp; omega)
        have d3 : (0 : Int) < (M.length : Int) + 1 := by omega
        have HF : Hid (∀ n, Below w.heap.size w (w4.drewN n)) := fun n => HB4.out.trans ((Below.drewAny _ n).mono HB4.out.size)
        clear hk hfd hl0 CS HRES
        go_quiet (fail)
        go_wp2
        go_ret
        exact ⟨rfl, HF.out _⟩
    | cons q S =>
      have hfd' : fd = true := hfd
      subst hfd'
      have hp := HP.out
      simp only [List.head?_cons, Option.getD_some] at hp
      subst hp
      cases M with
      | nil =>
        have hr : res = false := by rw [← HRES.out, decide_eq_false_iff_not, hk]; simp
        subst hr
        have HF : Hid (∀ n, Below w.heap.size w (w4.drewN n)) := fun n => HB4.out.trans ((Below.drewAny _ n).mono HB4.out.size)
        clear hk hfd CS HRES
        simp only [List.length_nil] at *
        go_quiet (fail)
        go_wp2
        go_ret
        exact ⟨rfl, HF.out _⟩
      | cons m M =>
        have d1 : decide ((0 : Int) < ((m :: M).length : Int)) = true := by first | (simp; done) | (simp; omega)
        have d2 : decide ((0 : Int) < (M.length : Int) + 1) = true := by first | (simp; done) | (simp; omega)
        have d3 : (0 : Int) < (M.length : Int) + 1 := by omega
        obtain ⟨b, off, ea, hbl, hcs⟩ := H4.out.get (by simp)
        have x0 := hcs 0 (by simp) 0 (by omega)
        have x1' := hcs 0 (by simp) 1 (by omega)
        have x2' := hcs 0 (by simp) 2 (by omega)
        simp only [ePt, List.getElem?_cons_zero, List.getElem?_cons_succ, Nat.add_zero, List.getElem_cons_zero, Nat.zero_mul] at x0 x1' x2'
        have hr1 : (p1, p2, p3) ≠ m → res = false := fun hne => by
          rw [← HRES.out, decide_eq_false_iff_not, hk]
          intro e
          simp only [List.take_succ_cons, List.cons.injEq] at e
          exact hne e.1
        have hr2 : decide (L = m :: M) = res := by rw [← HRES.out, HL.out]
        have HF : Hid (∀ n, Below w.heap.size w (w4.drewN n)) := fun n => HB4.out.trans ((Below.drewAny _ n).mono HB4.out.size)
        rw [hr2] at CS
        have EA := Lib.hid ea
        clear hcs ea hk hfd hr2 HRES
        obtain ⟨m1, m2, m3⟩ := m
        simp only at x0 x1' x2'
        obtain rfl := EA.out
        clear EA
        have hlen : ((m1, m2, m3) :: M).length = M.length + 1 := rfl
        by_cases h0 : p1 = m1
        · have e0 : (p1 == m1) = true := by simp [h0]
          by_cases h1 : p2 = m2
          · have e1 : (p2 == m2) = true := by simp [h1]
            by_cases h2 : p3 = m3
            · have e2 : (p3 == m3) = true := by simp [h2]
              clear h0 h1 h2 hr1 hlen
              go_quiet (fail)
              go_wp2_with fail
              refine (CS.out _ (Below.drewAny _ _)).mono ?_
              rintro e w5 ⟨rfl, hb5⟩
              have HB5 := Lib.hid (HB4.out.trans (((Below.drewAny _ _).trans hb5).mono HB4.out.size))
              clear hb5
              go_wp2
              go_ret
              exact ⟨rfl, HB5.out⟩
            · have e2 : (p3 == m3) = false := by simp [h2]
              have hr := hr1 (fun e => h2 (by injection e with _ e; injection e))
              subst hr
              clear h0 h1 h2 hr1 hlen CS
              go_quiet (fail)
              go_wp2
              go_ret
              exact ⟨rfl, HF.out _⟩
          · have e1 : (p2 == m2) = false := by simp [h1]
            have hr := hr1 (fun e => h1 (by injection e with _ e; injection e))
            subst hr
            clear h0 h1 hr1 hlen CS
            go_quiet (fail)
            go_wp2
            go_ret
            exact ⟨rfl, HF.out _⟩
        · have e0 : (p1 == m1) = false := by simp [h0]
          have hr := hr1 (fun e => h0 (by injection e))
          subst hr
          clear h0 hr1 hlen CS
          go_quiet (fail)
          go_wp2
          go_ret
          exact ⟨rfl, HF.out _⟩
end Go.Proofs.YtggfdlanobndjaaGreat
