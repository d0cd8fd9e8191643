/- stair.Beats: is one of a stair over a point? -/
import Derived.Test.YtpebefcmloablaaMrgP
import Derived.Test.YtpebefcmloablaaLog
import Derived.RangeFuncBox
namespace Go.Proofs.Ytpebefcmloablaa
open Go.RowKit Go.Maps

set_option maxRecDepth 100000 in
set_option maxHeartbeats 1000000 in
theorem look_calls (p : Pt) (x : Int) (L c : Nat) (hc : c ≤ 1000000) (W : World) (h : Boxed W L 3 (.int .i64 c)) :
    Calls Try.prog 46 #[vPt p.1 p.2.1 p.2.2, .int .i64 x, .pointer (some ⟨L, 0, none⟩)] W fun e w' => e = .returned (.int .i64 (if p.1 < x then -1 else 1)) ∧ Boxed w' L 3 (.int .i64 ((c + 1 : Nat) : Int)) ∧ Below L W w' := by
  have hL := h.lt
  have hcell := h.cell
  have hfr := h.frozen
  obtain ⟨px, py, pi⟩ := p
  have h2 := (h.set (.int .i64 ((c + 1 : Nat) : Int))).alloc (.cells #[.int .i64 px, .int .i64 py, .int .u32 pi] 33)
  have hb : Below L W ((W.setCell ⟨L, 0, none⟩ (.int .i64 ((c + 1 : Nat) : Int))).alloc (.cells #[.int .i64 px, .int .i64 py, .int .u32 pi] 33)) := ((Below.refl _ W).setCell (p := ⟨L, 0, none⟩) (Nat.le_refl _) _).alloc (by simp; omega) _
  have hlW : L ≠ W.heap.size := by omega
  rw [show ((c + 1 : Nat) : Int) = (c : Int) + 1 by omega] at h2 hb ⊢
  by_cases hx : px < x
  · have d1 : decide (px < x) = true := by simp [hx]
    simp only [if_pos hx]
    go_enter Try.func46, Try.ntmps46
    go_wp2
    go_ret
    exact ⟨rfl, h2, hb⟩
  · have d1 : decide (px < x) = false := by simp; omega
    simp only [if_neg hx]
    go_enter Try.func46, Try.ntmps46
    go_wp2
    go_ret
    exact ⟨rfl, h2, hb⟩

theorem enters_look : ∀ args w, (callFunc 46 args).run Try.prog w = .ok (.enter 46 args) w := enters_of Try.func46 (by kernel_rfl) rfl

set_option maxRecDepth 100000 in
set_option maxHeartbeats 2000000 in
theorem bsf_calls (a : Option Addr) (l : List Pt) (n cp : Nat) (x : Int) (L : Nat) (W0 W : World) (hn : l.length = n) (hl : n ≤ 1000000) (hr : RdK ePt 3 W0 a l) (hL : W0.heap.size ≤ L) (hW : Below L W0 W) (hs : l.Pairwise fun p q => p.1 ≤ q.1) (hb : Boxed W L 3 (.int .i64 0)) :
    Calls Try.prog 45 #[.slice a n cp, .int .i64 x, .func (.func 46) #[] #[.pointer (some ⟨L, 0, none⟩)]] W fun e w' =>
      ∃ k c : Nat, e = .returned (.tuple #[.int .i64 k, .bool false]) ∧ k ≤ n ∧ (∀ t (_ : t < l.length), t < k → l[t].1 < x) ∧ (∀ t (_ : t < l.length), k ≤ t → x ≤ l[t].1) ∧ c ≤ Lib.bitLen n + 1 ∧ Boxed w' L 3 (.int .i64 c) ∧ Below L W w' := by
  subst hn
  have HR := Lib.hid hr
  have HS := Lib.hid hs
  have HW := Lib.hid hW
  have hbl := bitLen_mono (show l.length ≤ 1000000 from hl) (by decide)
  have hbl2 : Lib.bitLen 1000000 = 20 := by decide
  rw [hbl2] at hbl
  have HC := Lib.hid look_calls
  clear hr hs hW
  go_enter Try.func45, Try.ntmps45
  go_wp2
  go_loopw [9, 10] (fun iv jv wr => ∃ i j c : Nat, iv = .int .i64 i ∧ jv = .int .i64 j ∧ i ≤ j ∧ j ≤ l.length ∧ Hid (c + Lib.bitLen (j - i) ≤ Lib.bitLen l.length) ∧ Hid (∀ t (_ : t < l.length), t < i → l[t].1 < x) ∧ Hid (∀ t (_ : t < l.length), j ≤ t → x ≤ l[t].1) ∧ Hid (Boxed wr L 3 (.int .i64 c)) ∧ Below L W wr)
    (fun iv jv _ => (intOf jv).toNat - (intOf iv).toNat)
  case atStart => exact ⟨0, l.length, 0, rfl, rfl, Nat.zero_le _, Nat.le_refl _, (by show _ ≤ _; simp), fun t _ h => absurd h (Nat.not_lt_zero _), fun t h1 h2 => absurd h1 (by omega), hb, Below.refl _ _⟩
  case round =>
    obtain ⟨i, j, c, rfl, rfl, hij, hj, HCN, H1, H2, HB, hbw⟩ := hrel
    by_cases hlt : i < j
    · have hmj : (i + j) / 2 < l.length := by omega
      obtain ⟨b, off, ea, hbb, hcs⟩ := (HR.out.below (B := L) (HW.out.trans hbw) hL).get (by omega)
      have x0 := hcs ((i + j) / 2) hmj 0 (by omega)
      have x1 := hcs ((i + j) / 2) hmj 1 (by omega)
      have x2 := hcs ((i + j) / 2) hmj 2 (by omega)
      simp only [ePt, List.getElem?_cons_zero, List.getElem?_cons_succ, Nat.add_zero] at x0 x1 x2
      have hcl : c ≤ 1000000 := by have := HCN.out; omega
      have HCL := Lib.hid (HC.out l[(i + j) / 2] x L c hcl wr HB.out)
      have HLO : Hid (l[(i + j) / 2].1 < x → ∀ t (_ : t < l.length), t < (i + j) / 2 + 1 → l[t].1 < x) := fun h t ht h2 => by
        rcases Nat.lt_succ_iff_lt_or_eq.1 h2 with h3 | rfl
        · have := List.pairwise_iff_getElem.1 HS.out t ((i + j) / 2) ht hmj h3
          omega
        · exact h
      have HHI : Hid (¬ l[(i + j) / 2].1 < x → ∀ t (_ : t < l.length), (i + j) / 2 ≤ t → x ≤ l[t].1) := fun h t ht h2 => by
        rcases Nat.lt_or_eq_of_le h2 with h3 | rfl
        · have := List.pairwise_iff_getElem.1 HS.out ((i + j) / 2) t hmj ht h3
          omega
        · omega
      have EA := Lib.hid ea
      clear hcs ea HB
      generalize l[(i + j) / 2] = p at *
      obtain ⟨px, py, pi⟩ := p
      simp only at x0 x1 x2
      obtain rfl := EA.out
      clear EA
      have hcn := HCN.out
      by_cases hx : px < x
      · have HLO2 := Lib.hid (HLO.out hx)
        have HCL2 := HCL
        simp only [if_pos hx] at HCL2
        have HCN2 : Hid (c + 1 + Lib.bitLen (j - ((i + j) / 2 + 1)) ≤ Lib.bitLen l.length) := by
          have := bitLen_less (d := j - i) (e := j - ((i + j) / 2 + 1)) (by omega) (by omega) (by omega)
          show _ ≤ _; omega
        clear HCL HLO HHI HCN hcn hx
        go_wp2_with (go_at_call 46; refine HCL2.out.mono ?_; rintro e w' ⟨rfl, hB', hb'⟩)
        go_roundw
        case rel => exact ⟨(i + j) / 2 + 1, j, c + 1, by rw [show ((i : Int) + (j : Int)) / 2 + 1 = (((i + j) / 2 + 1 : Nat) : Int) by omega], rfl, by omega, hj, HCN2, HLO2, H2, hB', hbw.trans hb'⟩
        case measure => simp [intOf]; omega
      · have HHI2 := Lib.hid (HHI.out hx)
        have HCL2 := HCL
        simp only [if_neg hx] at HCL2
        have HCN2 : Hid (c + 1 + Lib.bitLen ((i + j) / 2 - i) ≤ Lib.bitLen l.length) := by
          have := bitLen_less (d := j - i) (e := (i + j) / 2 - i) (by omega) (by omega) (by omega)
          show _ ≤ _; omega
        clear HCL HLO HHI HCN hcn hx
        go_wp2_with (go_at_call 46; refine HCL2.out.mono ?_; rintro e w' ⟨rfl, hB', hb'⟩)
        go_roundw
        case rel => exact ⟨i, (i + j) / 2, c + 1, rfl, by rw [show ((i : Int) + (j : Int)) / 2 = (((i + j) / 2 : Nat) : Int) by omega], by omega, by omega, HCN2, H1, HHI2, hB', hbw.trans hb'⟩
        case measure => simp [intOf]; omega
    · obtain rfl : i = j := by omega
      have hcn := HCN.out
      rw [Nat.sub_self, bitLen_zero, Nat.add_zero] at hcn
      by_cases hil : i < l.length
      · obtain ⟨b, off, ea, hbb, hcs⟩ := (HR.out.below (B := L) (HW.out.trans hbw) hL).get (by omega)
        have x0 := hcs i hil 0 (by omega)
        have x1 := hcs i hil 1 (by omega)
        have x2 := hcs i hil 2 (by omega)
        simp only [ePt, List.getElem?_cons_zero, List.getElem?_cons_succ, Nat.add_zero] at x0 x1 x2
        have HCL := Lib.hid (HC.out l[i] x L c (by omega) wr HB.out)
        have hge := H2.out i hil (Nat.le_refl _)
        rw [show (if l[i].1 < x then (-1 : Int) else 1) = 1 by rw [if_neg (by omega)]] at HCL
        have EA := Lib.hid ea
        clear hcs ea HB hge
        generalize l[i] = p at *
        obtain ⟨px, py, pi⟩ := p
        simp only at x0 x1 x2
        obtain rfl := EA.out
        clear EA
        have HCN3 := Lib.hid hcn
        clear hcn HCN
        go_wp2_with (go_at_call 46; refine HCL.out.mono ?_; rintro e w' ⟨rfl, hB', hb'⟩)
        go_ret2
        exact ⟨i, c + 1, rfl, by omega, H1.out, H2.out, by have := HCN3.out; omega, hB', hbw.trans hb'⟩
      · obtain rfl : i = l.length := by omega
        have HCN3 := Lib.hid hcn
        clear hcn HCN
        go_wp2
        go_ret2
        exact ⟨_, c, rfl, Nat.le_refl _, H1.out, H2.out, by have := HCN3.out; omega, HB.out, hbw⟩

set_option maxRecDepth 100000 in
set_option maxHeartbeats 2000000 in
theorem beats_no (a : Option Addr) (l : List Pt) (n c : Nat) (p : Pt) (w : World) (hn : l.length = n) (h : RdK ePt 3 w a l) (hl : n ≤ 1000000) (hw : wfI l) (hu : rightF l = false) :
    Calls Try.prog 23 #[.slice a n c, vPt p.1 p.2.1 p.2.2] w fun e w' => e = .returned (.tuple #[.bool false, .int .i64 0, .int .i64 150]) ∧ Below w.heap.size w w' := by
  obtain ⟨px, py, pi⟩ := p
  have C1 := Lib.hid (fun W (hb : Below w.heap.size w W) => right_calls a l n c W hn (h.below hb) hl hw)
  rw [hu] at C1
  clear h hw hu
  go_enter Try.func23, Try.ntmps23
  go_wp2_with fail
  have hb0 := (Below.refl w.heap.size w).alloc (Nat.le_refl _) (.cells #[.int .i64 px, .int .i64 py, .int .u32 pi] 33)
  refine (C1.out _ hb0).mono ?_
  rintro e w1 ⟨rfl, hb1⟩
  go_wp2
  go_ret3
  exact ⟨rfl, hb0.trans (hb1.mono (by simp))⟩

theorem over_below (p q : Pt) (W : World) : Calls Try.prog 26 #[vPt p.1 p.2.1 p.2.2, vPt q.1 q.2.1 q.2.2] W fun e w' => e = .returned (.bool (ovr p q)) ∧ Below W.heap.size W w' :=
  (iOver p q W).mono fun _ _ h => ⟨h.1, h.2.below (Nat.le_refl _)⟩

set_option maxRecDepth 100000 in
set_option maxHeartbeats 2000000 in
theorem beats_yes (a : Option Addr) (l : List Pt) (n c : Nat) (p : Pt) (w : World) (hn : l.length = n) (h : RdK ePt 3 w a l) (hl : n ≤ 1000000) (hw : wfI l) (hu : rightF l = true) :
    Calls Try.prog 23 #[.slice a n c, vPt p.1 p.2.1 p.2.2] w fun e w' => (∃ k : Nat, e = .returned (.tuple #[.bool (btn l p), .int .i64 k, .int .i64 0]) ∧ k ≤ Lib.bitLen n + 1) ∧ Below w.heap.size w w' := by
  have C1 := Lib.hid (fun W (hb : Below w.heap.size w W) => right_calls a l n c W hn (h.below hb) hl hw)
  rw [hu] at C1
  have HSK := Lib.hid (right_sky hu)
  have hsx : l.Pairwise fun p q => p.1 ≤ q.1 := (right_sorted hu).imp fun {p q} hpq => by unfold ltX at hpq; omega
  have HSX := Lib.hid hsx
  have HB := Lib.hid (fun k hk h1 h2 => stair_beats HSK.out p k hk h1 h2)
  have HR := Lib.hid h
  have HO := Lib.hid (fun q W => over_below q p W)
  clear h hw hu hsx
  generalize hbt : btn l p = bt at *
  clear hbt
  obtain ⟨px, py, pi⟩ := p
  go_enter Try.func23, Try.ntmps23
  go_wp2_with fail
  have hb0 := (Below.refl w.heap.size w).alloc (Nat.le_refl _) (.cells #[.int .i64 px, .int .i64 py, .int .u32 pi] 33)
  refine (C1.out _ hb0).mono ?_
  rintro e w1 ⟨rfl, hb1⟩
  have p0 : w1.cell? ⟨w.heap.size, 0, none⟩ = some (.int .i64 px) := (hb1.cell (p := ⟨w.heap.size, 0, none⟩) (by simp)).trans (by rw [World.cell?_alloc_at _ _ _ _ rfl]; rfl)
  have p1 : w1.cell? ⟨w.heap.size, 1, none⟩ = some (.int .i64 py) := (hb1.cell (p := ⟨w.heap.size, 1, none⟩) (by simp)).trans (by rw [World.cell?_alloc_at _ _ _ _ rfl]; rfl)
  have p2 : w1.cell? ⟨w.heap.size, 2, none⟩ = some (.int .u32 pi) := (hb1.cell (p := ⟨w.heap.size, 2, none⟩) (by simp)).trans (by rw [World.cell?_alloc_at _ _ _ _ rfl]; rfl)
  have hlt1 : w.heap.size < w1.heap.size := by have := hb1.size; simp at this; omega
  have B1 := hb0.trans (hb1.mono (by simp))
  clear hb0 hb1 C1
  go_wp2_with fail
  refine (bsf_calls a l n c px w1.heap.size w1 _ hn hl (HR.out.below B1) (Nat.le_refl _) ((Below.refl _ _).alloc (Nat.le_refl _) _) HSX.out (Boxed.new w1 3 (.int .i64 0))).mono ?_
  rintro e w2 ⟨k, ck, rfl, hk, g1, g2, hck, hBx, hb2⟩
  have hbt := HB.out k (by omega) g1 g2
  have hbl := bitLen_mono (show n ≤ 1000000 from hl) (by decide)
  have hbl2 : Lib.bitLen 1000000 = 20 := by decide
  have hc7 := hBx.cell
  have B2 : Below w.heap.size w w2 := (B1.alloc B1.size _).trans (hb2.mono B1.size)
  have hb12 : Below w1.heap.size w1 w2 := ((Below.refl _ w1).alloc (Nat.le_refl _) _).trans hb2
  have q0 := (hb12.cell (p := ⟨w.heap.size, 0, none⟩) hlt1).trans p0
  have q1 := (hb12.cell (p := ⟨w.heap.size, 1, none⟩) hlt1).trans p1
  have q2 := (hb12.cell (p := ⟨w.heap.size, 2, none⟩) hlt1).trans p2
  have HG := Lib.hid hck
  clear g1 g2 HB HSK HSX p0 p1 p2 hb2 hb12 hbl2 hbl hBx hck
  by_cases hkn : k < l.length
  · rw [dif_pos hkn] at hbt
    obtain ⟨b, off, ea, hbb, hcs⟩ := (HR.out.below B2).get (by omega)
    have x0 := hcs k hkn 0 (by omega)
    have x1 := hcs k hkn 1 (by omega)
    have x2 := hcs k hkn 2 (by omega)
    simp only [ePt, List.getElem?_cons_zero, List.getElem?_cons_succ, Nat.add_zero] at x0 x1 x2
    have HO2 := Lib.hid (HO.out l[k])
    have EA := Lib.hid ea
    have d1 : ((k : Int) == (n : Int)) = false := by simp; omega
    have hk2 : (k : Int) < (n : Int) := by omega
    have hk3 : (0 : Int) ≤ (k : Int) := by omega
    clear hcs ea HO HR
    generalize l[k] = q at *
    obtain ⟨qx, qy, qi⟩ := q
    simp only at x0 x1 x2
    have HBT := Lib.hid hbt
    clear hbt
    obtain rfl := EA.out
    clear EA
    have kx0 := cell_belowW x0
    have kx1 := cell_belowW x1
    have kx2 := cell_belowW x2
    have ky0 := cell_belowW q0
    have ky1 := cell_belowW q1
    have ky2 := cell_belowW q2
    have kc7 := cell_belowW hc7
    go_wp2
    refine wp_region_below (by kernel_rfl) (by kernel_rfl) ?_
    repeat (quiet_step ((go_at_call 26; exact calls_below (HO2.out _))))
    refine wpQuiet_nil ?_
    intro w5 hw'
    have hb6 : Below w2.heap.size w2 w5 := by obtain ⟨p, rfl⟩ := hw'; exact p.h
    clear hw'
    go_wp2
    go_ret3
    exact ⟨⟨ck, by rw [HBT.out]; rfl, HG.out⟩, B2.trans (hb6.mono B2.size)⟩
  · rw [dif_neg hkn] at hbt
    subst hbt
    have d1 : ((k : Int) == (n : Int)) = true := by simp; omega
    go_wp2
    go_region
    all_goals
      go_wp2
      go_ret3
      exact ⟨⟨ck, rfl, HG.out⟩, B2.drew⟩

end Go.Proofs.Ytpebefcmloablaa
