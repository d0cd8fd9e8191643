/- The binary search in a bucket, counted. -/
import Derived.Test.YtpebefcmloablaaEnt
namespace Go.Proofs.Ytpebefcmloablaa
open Go.RowKit Go.Maps
set_option linter.unusedSimpArgs false
set_option linter.unusedVariables false

set_option maxRecDepth 100000 in
set_option maxHeartbeats 1000000 in
theorem lookE (p : Ent) (x : Int) (L c : Nat) (hc : c ≤ 1000000) (W : World) (h : Boxed W L 3 (.int .i64 c)) :
    Calls Try.prog 63 #[vEnt p.1 p.2, .int .u32 x, .pointer (some ⟨L, 0, none⟩)] W fun e w' => e = .returned (.int .i64 (cmpI p.1 x)) ∧ Boxed w' L 3 (.int .i64 ((c + 1 : Nat) : Int)) ∧ Below L W w' := by
  have hL := h.lt
  have hcell := h.cell
  have hfr := h.frozen
  obtain ⟨px, pn⟩ := p
  have h2 := (h.alloc (.cells #[.int .u32 px, .int .i64 pn] 86)).set (.int .i64 ((c + 1 : Nat) : Int))
  have hb : Below L W ((W.alloc (.cells #[.int .u32 px, .int .i64 pn] 86)).setCell ⟨L, 0, none⟩ (.int .i64 ((c + 1 : Nat) : Int))) := Below.setCell (p := ⟨L, 0, none⟩) ((Below.refl L W).alloc (Nat.le_of_lt hL) _) (Nat.le_refl _) _
  have h2' := (h.set (.int .i64 ((c + 1 : Nat) : Int))).alloc (.cells #[.int .u32 px, .int .i64 pn] 86)
  have hb' : Below L W ((W.setCell ⟨L, 0, none⟩ (.int .i64 ((c + 1 : Nat) : Int))).alloc (.cells #[.int .u32 px, .int .i64 pn] 86)) := ((Below.refl _ W).setCell (p := ⟨L, 0, none⟩) (Nat.le_refl _) _).alloc (by simp; omega) _
  have hlW : L ≠ W.heap.size := by omega
  have C1 := Lib.hid (fun W => cmpName px x W)
  rw [show ((c + 1 : Nat) : Int) = (c : Int) + 1 by omega] at h2 hb h2' hb' ⊢
  simp only
  generalize cmpI px x = r at *
  have H2 := Lib.hid h2
  have HB := Lib.hid hb
  have H2' := Lib.hid h2'
  have HB' := Lib.hid hb'
  clear h2 hb h2' hb'
  go_enter Try.func63, Try.ntmps63
  go_wp2_with fail
  refine (C1.out _).mono ?_
  rintro e w1 ⟨rfl, rfl⟩
  go_wp2
  go_ret
  first
    | exact ⟨rfl, H2.out, HB.out⟩
    | exact ⟨rfl, H2'.out, HB'.out⟩

theorem enters_lookE : ∀ args w, (callFunc 63 args).run Try.prog w = .ok (.enter 63 args) w := enters_of Try.func63 (by kernel_rfl) rfl

/-- what the search answers -/
def BsfP (l : List Ent) (n : Nat) (x : Int) (L c0 : Nat) (W : World) (e : Ending) (w' : World) : Prop :=
  ∃ (k c : Nat) (bb : Bool), e = .returned (.tuple #[.int .i64 k, .bool bb]) ∧ k ≤ n ∧ (∀ t (_ : t < l.length), t < k → l[t].1 < x) ∧ (∀ t (_ : t < l.length), k ≤ t → x ≤ l[t].1) ∧ c ≤ c0 + Lib.bitLen n + (if n = 0 then 0 else 1) ∧ c0 ≤ c ∧ Boxed w' L 3 (.int .i64 c) ∧ Below L W w'

set_option maxRecDepth 100000 in
set_option maxHeartbeats 2000000 in
theorem bsfE (a : Option Addr) (l : List Ent) (n cp : Nat) (x : Int) (L c0 : Nat) (W0 W : World) (hn : l.length = n) (hl : n ≤ 10000) (hc0 : c0 ≤ 100000) (hr : RdK eEnt 2 W0 a l) (hL : W0.heap.size ≤ L) (hW : Below L W0 W) (hs : l.Pairwise fun p q => p.1 ≤ q.1) (hb : Boxed W L 3 (.int .i64 c0)) :
    Calls Try.prog 62 #[.slice a n cp, .int .u32 x, .func (.func 63) #[] #[.pointer (some ⟨L, 0, none⟩)]] W (BsfP l n x L c0 W) := by
  subst hn
  have HR := Lib.hid hr
  have HS := Lib.hid hs
  have HW := Lib.hid hW
  have hbl := bitLen_mono (show l.length ≤ 10000 from hl) (by decide)
  have hbl2 : Lib.bitLen 10000 = 14 := by decide
  rw [hbl2] at hbl
  have HC := Lib.hid lookE
  clear hr hs hW
  go_enter Try.func62, Try.ntmps62
  go_wp2
  go_loopw [9, 10] (fun iv jv wr => ∃ i j c : Nat, iv = .int .i64 i ∧ jv = .int .i64 j ∧ i ≤ j ∧ j ≤ l.length ∧ Hid (c + Lib.bitLen (j - i) ≤ c0 + Lib.bitLen l.length ∧ c0 ≤ c) ∧ Hid (∀ t (_ : t < l.length), t < i → l[t].1 < x) ∧ Hid (∀ t (_ : t < l.length), j ≤ t → x ≤ l[t].1) ∧ Hid (Boxed wr L 3 (.int .i64 c)) ∧ Below L W wr)
    (fun iv jv _ => (intOf jv).toNat - (intOf iv).toNat)
  case atStart => exact ⟨0, l.length, c0, rfl, rfl, Nat.zero_le _, Nat.le_refl _, (by show _ ∧ _; simp), fun t _ h => absurd h (Nat.not_lt_zero _), fun t h1 h2 => absurd h1 (by omega), hb, Below.refl _ _⟩
  case round =>
    obtain ⟨i, j, c, rfl, rfl, hij, hj, HCN, H1, H2, HB, hbw⟩ := hrel
    by_cases hlt : i < j
    · have hmj : (i + j) / 2 < l.length := by omega
      obtain ⟨b, off, ea, hbb, hcs⟩ := (HR.out.below (B := L) (HW.out.trans hbw) hL).get (by omega)
      have x0 := hcs ((i + j) / 2) hmj 0 (by omega)
      have x1 := hcs ((i + j) / 2) hmj 1 (by omega)
      simp only [eEnt, List.getElem?_cons_zero, List.getElem?_cons_succ, Nat.add_zero] at x0 x1
      have hcl : c ≤ 1000000 := by have := HCN.out; omega
      have HCL := Lib.hid (HC.out l[(i + j) / 2] x L c hcl wr HB.out)
      have HLO : Hid (l[(i + j) / 2].1 < x → ∀ t (_ : t < l.length), t < (i + j) / 2 + 1 → l[t].1 < x) := fun h t ht h2 => by
        rcases Nat.lt_succ_iff_lt_or_eq.1 h2 with h3 | rfl
        · have := List.pairwise_iff_getElem.1 HS.out t ((i + j) / 2) ht hmj h3
          omega
        · exact h
      have HHI : Hid (¬ l[(i + j) / 2].1 < x → ∀ t (_ : t < l.length), (i + j) / 2 ≤ t → x ≤ l[t].1) := fun h t ht h2 => by
        rcases Nat.lt_or_eq_of_le h2 with h3 | rfl
        · have := List.pairwise_iff_getElem.1 HS.out ((i + j) / 2) t hmj ht h3
          omega
        · omega
      have EA := Lib.hid ea
      clear hcs ea HB
      generalize l[(i + j) / 2] = p at *
      obtain ⟨px, pn⟩ := p
      simp only at x0 x1 HCL HLO HHI
      obtain rfl := EA.out
      clear EA
      have hcn := HCN.out
      have hcm : cmpI px x < 0 ↔ px < x := by unfold cmpI; split <;> (try split) <;> omega
      generalize cmpI px x = r at *
      by_cases hx : px < x
      · have HLO2 := Lib.hid (HLO.out hx)
        have hd : decide (r < 0) = true := by simp [hcm.2 hx]
        have HCN2 : Hid (c + 1 + Lib.bitLen (j - ((i + j) / 2 + 1)) ≤ c0 + Lib.bitLen l.length ∧ c0 ≤ c + 1) := by
          have := bitLen_less (d := j - i) (e := j - ((i + j) / 2 + 1)) (by omega) (by omega) (by omega)
          show _ ∧ _; omega
        clear HLO HHI HCN hcn hx hcm
        go_wp2_with (go_at_call 63; refine HCL.out.mono ?_; rintro e w' ⟨rfl, hB', hb'⟩)
        go_roundw
        case rel => exact ⟨(i + j) / 2 + 1, j, c + 1, by rw [show ((i : Int) + (j : Int)) / 2 + 1 = (((i + j) / 2 + 1 : Nat) : Int) by omega], rfl, by omega, hj, HCN2, HLO2, H2, hB', hbw.trans hb'⟩
        case measure => simp [intOf]; omega
      · have HHI2 := Lib.hid (HHI.out hx)
        have hd : decide (r < 0) = false := by simp only [decide_eq_false_iff_not]; exact fun h => hx (hcm.1 h)
        have HCN2 : Hid (c + 1 + Lib.bitLen ((i + j) / 2 - i) ≤ c0 + Lib.bitLen l.length ∧ c0 ≤ c + 1) := by
          have := bitLen_less (d := j - i) (e := (i + j) / 2 - i) (by omega) (by omega) (by omega)
          show _ ∧ _; omega
        clear HLO HHI HCN hcn hx hcm
        go_wp2_with (go_at_call 63; refine HCL.out.mono ?_; rintro e w' ⟨rfl, hB', hb'⟩)
        go_roundw
        case rel => exact ⟨i, (i + j) / 2, c + 1, rfl, by rw [show ((i : Int) + (j : Int)) / 2 = (((i + j) / 2 : Nat) : Int) by omega], by omega, by omega, HCN2, H1, HHI2, hB', hbw.trans hb'⟩
        case measure => simp [intOf]; omega
    · obtain rfl : i = j := by omega
      have hcn := HCN.out
      rw [Nat.sub_self, bitLen_zero, Nat.add_zero] at hcn
      by_cases hil : i < l.length
      · obtain ⟨b, off, ea, hbb, hcs⟩ := (HR.out.below (B := L) (HW.out.trans hbw) hL).get (by omega)
        have x0 := hcs i hil 0 (by omega)
        have x1 := hcs i hil 1 (by omega)
        simp only [eEnt, List.getElem?_cons_zero, List.getElem?_cons_succ, Nat.add_zero] at x0 x1
        have HCL := Lib.hid (HC.out l[i] x L c (by omega) wr HB.out)
        have EA := Lib.hid ea
        have hne : ¬ l.length = 0 := by omega
        clear hcs ea HB
        generalize l[i] = p at *
        obtain ⟨px, pn⟩ := p
        simp only at x0 x1 HCL
        obtain rfl := EA.out
        clear EA
        generalize cmpI px x = r at *
        have HCN3 := Lib.hid hcn
        clear hcn HCN
        go_wp2_with (go_at_call 63; refine HCL.out.mono ?_; rintro e w' ⟨rfl, hB', hb'⟩)
        go_ret2
        exact ⟨i, c + 1, _, rfl, by omega, H1.out, H2.out, by have := HCN3.out; rw [if_neg hne]; omega, by have := HCN3.out; omega, hB', hbw.trans hb'⟩
      · obtain rfl : i = l.length := by omega
        have HCN3 := Lib.hid hcn
        clear hcn HCN
        go_wp2
        go_ret2
        exact ⟨l.length, c, _, rfl, Nat.le_refl _, H1.out, H2.out, by have := HCN3.out; omega, by have := HCN3.out; omega, HB.out, hbw⟩

end Go.Proofs.Ytpebefcmloablaa
