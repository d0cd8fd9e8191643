/- stair.Right: is it a stair? -/
import Derived.Test.YtpebefcmloablaaUnl
namespace Go.Proofs.Ytpebefcmloablaa
open Go.RowKit Go.Maps

def rightF (l : List Pt) : Bool := chainOK l && unl l

theorem chain_no {l : List Pt} {m : Nat} (h : m + 1 < l.length) (hn : ¬ stR l[m] l[m + 1]) : rightF l = false := by
  unfold rightF
  rw [Bool.and_eq_false_iff]
  left
  cases h2 : chainOK l
  · rfl
  · exact absurd ((chainOK_iff l).1 h2 m h) hn

/-- one list, as the variable arguments -/
theorem lsts_one {W : World} {a : Option Addr} {l : List Pt} (c : Nat) (t : TypeId) (h : RdK ePt 3 W a l) : Lsts (W.alloc (.cells #[.slice a l.length c] t)) W.heap.size [(a, l, c)] := by
  intro j hj
  obtain rfl : j = 0 := by simpa using hj
  exact ⟨by rw [World.cell?_alloc_at _ _ _ _ rfl]; rfl, h.below ((Below.refl _ _).alloc (Nat.le_refl _) _)⟩
theorem allP_one (a : Option Addr) (l : List Pt) (c : Nat) : allP [(a, l, c)] = l := by simp [allP]

set_option maxRecDepth 100000 in
set_option maxHeartbeats 2000000 in
theorem right_calls (a : Option Addr) (l : List Pt) (n c : Nat) (w : World) (hn : l.length = n) (h : RdK ePt 3 w a l) (hl : n ≤ 1000000) (hw : wfI l) :
    Calls Try.prog 21 #[.slice a n c] w fun e w' => e = .returned (.bool (rightF l)) ∧ Below w.heap.size w w' := by
  subst hn
  have HR := Lib.hid h
  have HW := Lib.hid hw
  clear h hw
  go_enter Try.func21, Try.ntmps21
  go_wp2
  go_loopw [3] (fun iv wr => ∃ m : Nat, iv = .int .i64 ((m : Int) + 1) ∧ m ≤ l.length ∧ Below w.heap.size w wr ∧ Hid (∀ i (_ : i + 1 < l.length), i < m → stR l[i] l[i + 1])) (fun iv _ => l.length + 1 - (intOf iv).toNat)
  case atStart => exact ⟨0, rfl, Nat.zero_le _, Below.refl _ _, fun i _ h => absurd h (Nat.not_lt_zero _)⟩
  case round =>
    obtain ⟨m, rfl, hm, hb, INV⟩ := hrel
    by_cases hlt : m + 1 < l.length
    · obtain ⟨b, off, ea, hbl, hcs⟩ := (HR.out.below hb).get (by omega)
      have x0 := hcs m (by omega) 0 (by omega)
      have x1 := hcs m (by omega) 1 (by omega)
      have x2 := hcs m (by omega) 2 (by omega)
      have y0 := hcs (m + 1) hlt 0 (by omega)
      have y1 := hcs (m + 1) hlt 1 (by omega)
      have y2 := hcs (m + 1) hlt 2 (by omega)
      simp only [ePt, List.getElem?_cons_zero, List.getElem?_cons_succ, Nat.add_zero] at x0 x1 x2 y0 y1 y2
      have hS := hb.size
      have BAD0 : ¬ stR l[m] l[m + 1] → rightF l = false := chain_no hlt
      have GOOD0 : stR l[m] l[m + 1] → Hid (∀ i (_ : i + 1 < l.length), i < m + 1 → stR l[i] l[i + 1]) := fun hst i hi him => by
        rcases Nat.lt_succ_iff_lt_or_eq.1 him with h | rfl
        · exact INV.out i hi h
        · exact hst
      have EA := Lib.hid ea
      clear hcs ea
      generalize hp : l[m]'(by omega) = p at *
      generalize hq : l[m + 1] = q at *
      clear hp hq
      obtain ⟨px, py, pi⟩ := p
      obtain ⟨qx, qy, qi⟩ := q
      unfold stR at BAD0 GOOD0
      simp only at BAD0 GOOD0 x0 x1 x2 y0 y1 y2
      obtain rfl := EA.out
      clear EA
      have hbw : b < wr.heap.size := by omega
      have hlt3 : (m : Int) + 1 < (l.length : Int) := by omega
      have hlt4 : (m : Int) < (l.length : Int) := by omega
      have BB : ∀ o1 o2, Below w.heap.size w (((wr.alloc o1).alloc o2).drew) := fun _ _ => (((hb.alloc hS _).alloc (by simp; omega) _).drew)
      by_cases hx : px = qx
      · have d1 : (px == qx) = true := by simp [hx]
        by_cases hy : py = qy
        · have d2 : (py == qy) = true := by simp [hy]
          by_cases hi : pi < qi
          · have d3 : decide (qi ≤ pi) = false := by simp; omega
            have GOOD := GOOD0 (.inl ⟨hx, hy, hi⟩)
            have i3 : ¬ qi ≤ pi := by omega
            clear hx hy BAD0 GOOD0 INV
            go_wp2
            go_region
            all_goals
              go_wp2
              go_roundw
              case rel => exact ⟨m + 1, by go_num, by omega, BB _ _, GOOD⟩
              case measure => simp [intOf]; omega
          · have d3 : decide (qi ≤ pi) = true := by simp; omega
            have i3 : qi ≤ pi := by omega
            have BAD := Lib.hid (BAD0 (by omega))
            clear hx hy hi BAD0 GOOD0 INV
            go_wp2
            go_region
            all_goals
              go_wp2
              go_ret
              exact ⟨by rw [BAD.out]; rfl, BB _ _⟩
        · have d2 : (py == qy) = false := by simp [hy]
          have d4 : decide (qx ≤ px) = true := by simp [hx]
          have i4 : qx ≤ px := by omega
          have BAD := Lib.hid (BAD0 (by omega))
          clear hx hy BAD0 GOOD0 INV
          go_wp2
          go_region
          all_goals
            go_wp2
            go_ret
            exact ⟨by rw [BAD.out]; rfl, BB _ _⟩
      · have d1 : (px == qx) = false := by simp [hx]
        by_cases hgx : qx ≤ px
        · have d4 : decide (qx ≤ px) = true := by simp [hgx]
          have BAD := Lib.hid (BAD0 (by omega))
          clear hx BAD0 GOOD0 INV
          go_wp2
          go_region
          all_goals
            go_wp2
            go_ret
            exact ⟨by rw [BAD.out]; rfl, BB _ _⟩
        · have d4 : decide (qx ≤ px) = false := by simp; omega
          by_cases hly : py ≤ qy
          · have d5 : decide (py ≤ qy) = true := by simp [hly]
            have BAD := Lib.hid (BAD0 (by omega))
            clear hx BAD0 GOOD0 INV
            go_wp2
            go_region
            all_goals
              go_wp2
              go_ret
              exact ⟨by rw [BAD.out]; rfl, BB _ _⟩
          · have d5 : decide (py ≤ qy) = false := by simp; omega
            have GOOD := GOOD0 (by omega)
            clear hx BAD0 GOOD0 INV
            go_wp2
            go_region
            all_goals
              go_wp2
              go_roundw
              case rel => exact ⟨m + 1, by go_num, by omega, BB _ _, GOOD⟩
              case measure => simp [intOf]; omega
    · have hch : chainOK l = true := (chainOK_iff l).2 fun i hi => INV.out i hi (by omega)
      have hf : rightF l = unl l := by unfold rightF; rw [hch, Bool.true_and]
      have HF := Lib.hid hf
      have hr := HR.out.below hb
      have hS := hb.size
      clear HR INV hch hf
      go_wp2_with fail
      refine (unlike_calls wr.heap.size 1 [(a, l, c)] _ (by simp) (lsts_one c 22 hr) (by rw [allP_one]; exact hl) (by simp) (by rw [allP_one]; exact HW.out)).mono ?_
      rw [allP_one]
      rintro e w1 ⟨rfl, hb1⟩
      go_wp2
      go_ret
      exact ⟨by rw [HF.out]; rfl, (hb.alloc hS _).trans (hb1.mono (by simp; omega))⟩

end Go.Proofs.Ytpebefcmloablaa
