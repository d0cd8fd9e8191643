/- gridironref15.Right, Merge, Beats. -/
import Derived.Test.YtpebefcmloablaaRfOf
namespace Go.Proofs.Ytpebefcmloablaa
open Go.RowKit Go.Maps

attribute [local irreducible] wpQuiet

theorem rightF_ref (l : List Pt) : rightF l = (unl l && decide (skyOf l = l)) := by
  cases hu : unl l
  · simp [rightF, hu]
  · have hnd := (unl_iff l).1 hu
    have e : chainOK l = decide (skyOf l = l) := by
      rw [Bool.eq_iff_iff, chainOK_sky, decide_eq_true_eq]
      exact ⟨fun h => (skyOf_is hnd).unique h, fun h => by have := skyOf_is hnd; rw [h] at this; exact this⟩
    rw [rightF, hu, e, Bool.and_true, Bool.true_and]

theorem skyOf_len {l : List Pt} : (skyOf l).length ≤ l.length := by
  have h1 : (skyOf l).length ≤ (srtX l).length := by unfold skyOf sky; exact List.length_filter_le _ _
  rw [(srtX_perm l).length_eq] at h1
  exact h1

set_option maxRecDepth 100000 in
set_option maxHeartbeats 2000000 in
theorem ref15_right (a : Option Addr) (l : List Pt) (n c : Nat) (w : World) (hn : l.length = n) (h : RdK ePt 3 w a l) (hl : n ≤ 1000000) :
    Calls Try.prog 22 #[.slice a n c] w fun e w' => e = .returned (.bool (rightF l)) ∧ Below w.heap.size w w' := by
  subst hn
  have hsl := skyOf_len (l := l)
  rw [rightF_ref]
  have C1 := Lib.hid (ref_right a l l.length c w rfl h hl)
  have C2 := Lib.hid (fun W (hW : Below w.heap.size w W) => ref_of a l l.length c W rfl (h.below hW) hl)
  have HR := Lib.hid h
  clear h
  cases hu : unl l
  · rw [hu] at C1
    clear C2 HR
    go_enter Try.func22, Try.ntmps22
    go_wp2_with fail
    refine C1.out.mono ?_
    rintro e w1 ⟨rfl, hb1⟩
    go_wp2
    go_ret
    exact ⟨rfl, hb1⟩
  · rw [hu] at C1
    have C3 := Lib.hid (fun W hW => C2.out W hW hu)
    clear C2 hu
    rw [Bool.true_and]
    generalize hM : skyOf l = M at *
    clear hM
    go_enter Try.func22, Try.ntmps22
    go_wp2_with fail
    refine C1.out.mono ?_
    rintro e w1 ⟨rfl, hb1⟩
    go_wp2_with fail
    refine (C3.out w1 hb1).mono ?_
    rintro e w2 ⟨v, rfl, hown, hb2⟩
    have B2 := hb1.trans (hb2.mono hb1.size)
    obtain ⟨a2, c2, rfl, -, -, hr2⟩ := RdK.of_owns ePt_len (by decide) hown
    have C4 := Lib.hid (ref_same a2 a M l M.length l.length c2 c w2 rfl rfl hr2 (HR.out.below B2) (by omega) hl)
    clear hown hr2 C3 C1 hb1 hb2
    go_wp2_with fail
    refine C4.out.mono ?_
    rintro e w3 ⟨rfl, hb3⟩
    go_wp2
    go_ret
    exact ⟨rfl, B2.trans (hb3.mono B2.size)⟩

set_option maxRecDepth 100000 in
set_option maxHeartbeats 2000000 in
theorem ref15_merge_stair (a b : Option Addr) (la lb : List Pt) (na nb ca cb : Nat) (w : World) (hna : la.length = na) (hnb : lb.length = nb) (ha : RdK ePt 3 w a la) (hb : RdK ePt 3 w b lb) (hl : na + nb ≤ 1000000) (hno : (rightF la && rightF lb) = false) :
    Calls Try.prog 20 #[.slice a na ca, .slice b nb cb] w fun e w' => e = .returned (.tuple #[.slice none 0 0, .int .i64 150]) ∧ Below w.heap.size w w' := by
  subst hna hnb
  have C1 := Lib.hid (ref15_right a la la.length ca w rfl ha (by omega))
  have C2 := Lib.hid (fun W (h : Below w.heap.size w W) => ref15_right b lb lb.length cb W rfl (hb.below h) (by omega))
  clear ha hb
  cases h1 : rightF la
  · rw [h1] at C1
    clear hno C2
    go_enter Try.func20, Try.ntmps20
    go_wp2_with fail
    refine C1.out.mono ?_
    rintro e w1 ⟨rfl, hb1⟩
    go_wp2
    go_ret2
    exact ⟨rfl, hb1⟩
  · have h2 : rightF lb = false := by simpa [h1] using hno
    rw [h1] at C1
    rw [h2] at C2
    clear hno
    go_enter Try.func20, Try.ntmps20
    go_wp2_with fail
    refine C1.out.mono ?_
    rintro e w1 ⟨rfl, hb1⟩
    go_wp2_with fail
    refine (C2.out w1 hb1).mono ?_
    rintro e w2 ⟨rfl, hb2⟩
    go_wp2
    go_ret2
    exact ⟨rfl, hb1.trans (hb2.mono hb1.size)⟩

set_option maxRecDepth 100000 in
set_option maxHeartbeats 2000000 in
theorem ref15_merge_both (a b : Option Addr) (la lb : List Pt) (na nb ca cb : Nat) (w : World) (hna : la.length = na) (hnb : lb.length = nb) (ha : RdK ePt 3 w a la) (hb : RdK ePt 3 w b lb) (hl : na + nb ≤ 1000000) (h1 : rightF la = true) (h2 : rightF lb = true) :
    Calls Try.prog 20 #[.slice a na ca, .slice b nb cb] w fun e w' => ((unl (la ++ lb) = false → e = .returned (.tuple #[.slice none 0 0, .int .i64 2])) ∧ (unl (la ++ lb) = true → ∃ v, e = .returned (.tuple #[v, .int .i64 0]) ∧ w'.ownsRow w.heap.size 33 3 v (skyOf (la ++ lb)).length ((skyOf (la ++ lb)).flatMap ePt))) ∧ Below w.heap.size w w' := by
  subst hna hnb
  have C1 := Lib.hid (ref15_right a la la.length ca w rfl ha (by omega))
  have C2 := Lib.hid (fun W (h : Below w.heap.size w W) => ref15_right b lb lb.length cb W rfl (hb.below h) (by omega))
  rw [h1] at C1
  rw [h2] at C2
  have H := Lib.hid ha
  have H' := Lib.hid hb
  clear ha hb h1 h2
  go_enter Try.func20, Try.ntmps20
  go_wp2_with fail
  refine C1.out.mono ?_
  rintro e w1 ⟨rfl, hb1⟩
  go_wp2_with fail
  refine (C2.out w1 hb1).mono ?_
  rintro e w2 ⟨rfl, hb2⟩
  have B2 := hb1.trans (hb2.mono hb1.size)
  clear hb1 hb2 C1 C2
  have hs2 := B2.size
  have hown := World.ownsRow_made (e := 33) (size := 3) w2 #[] 0 (Nat.le_refl _) (Nat.zero_le _) rfl
  have b3 : Below w2.heap.size w2 (w2.alloc (.cells #[] 33)) := (Below.refl _ _).alloc (Nat.le_refl _) _
  have hA := H.out.below (B2.trans (b3.mono hs2))
  have H2 : Hid (RdK ePt 3 w2 b lb) := H'.out.below B2
  go_wp2_with (first
    | (at_builtin; refine wp_appendK elPoint ePt_len ePt_one w2.heap.size hown hA rfl (.tmp 15) (.tmp 16) rfl rfl ca rfl (by unfold maxLen; omega) (by omega) (by simp) ?_; intro v4 w4 hown4 hg4; have b4 := below_grown b3 hown hg4 (by simp) (Nat.le_refl _); have hA4 := H2.out.below b4)
    | (at_builtin; refine wp_appendK elPoint ePt_len ePt_one w2.heap.size hown4 hA4 rfl (.tmp 17) (.tmp 18) rfl rfl cb rfl (by unfold maxLen; omega) (by omega) (by exact b4.size) ?_; intro v5 w5 hown5 hg5; have b5 := below_grown b4 hown4 hg5 b4.size (Nat.le_refl _)))
  have hown6 : w5.ownsRow w2.heap.size 33 3 v5 (la.length + lb.length) ((la ++ lb).flatMap ePt) := by
    rw [List.flatMap_append]
    simpa using hown5
  obtain ⟨a5, c5, rfl, -, -, hr5⟩ := RdK.of_owns ePt_len (by decide) hown6
  have B5 := B2.trans (b5.mono hs2)
  have hll : (la ++ lb).length = la.length + lb.length := by simp
  rw [hll]
  have P3 := Lib.hid (ref_right a5 (la ++ lb) (la.length + lb.length) c5 w5 hll hr5 hl)
  have P4 := Lib.hid (fun W (h : Below w5.heap.size w5 W) => ref_of a5 (la ++ lb) (la.length + lb.length) c5 W hll (hr5.below h) hl)
  clear hown4 hg4 hA4 hown5 hg5 hown6 hr5 hown hA b3 b4 b5 H H' H2 hll
  generalize hM : la ++ lb = M at *
  have HMM := Lib.hid hM
  clear hM
  have hs5 := B5.size
  rcases Bool.eq_false_or_eq_true (unl M) with hu | hu
  rotate_left
  · rw [hu] at P3
    have HU := Lib.hid hu
    clear P4 hu
    go_wp2_with fail
    refine P3.out.mono ?_
    rintro e w6 ⟨rfl, hb6⟩
    go_wp2
    go_ret2
    exact ⟨⟨fun _ => rfl, fun h => (by rw [HMM.out, HU.out] at h; cases h)⟩, B5.trans (hb6.mono hs5)⟩
  · rw [hu] at P3
    have P5 := Lib.hid (fun W hW => P4.out W hW hu)
    have HU := Lib.hid hu
    clear P4 hu
    go_wp2_with fail
    refine P3.out.mono ?_
    rintro e w6 ⟨rfl, hb6⟩
    have B6 := B5.trans (hb6.mono hs5)
    go_wp2_with fail
    refine (P5.out w6 hb6).mono ?_
    rintro e w7 ⟨v7, rfl, hown7, hb7⟩
    have HO7 := Lib.hid (ownsRow_mono (base' := w.heap.size) hown7 B6.size)
    clear hown7
    go_wp2
    go_ret2
    exact ⟨⟨fun h => (by rw [HMM.out, HU.out] at h; cases h), fun _ => ⟨_, rfl, (by rw [HMM.out]; exact HO7.out)⟩⟩, B6.trans (hb7.mono B6.size)⟩

theorem ref15_merge_arg (a b : Option Addr) (la lb : List Pt) (na nb ca cb : Nat) (w : World) (hna : la.length = na) (hnb : lb.length = nb) (ha : RdK ePt 3 w a la) (hb : RdK ePt 3 w b lb) (hl : na + nb ≤ 1000000) (h1 : rightF la = true) (h2 : rightF lb = true) (hu : unl (la ++ lb) = false) :
    Calls Try.prog 20 #[.slice a na ca, .slice b nb cb] w fun e w' => e = .returned (.tuple #[.slice none 0 0, .int .i64 2]) ∧ Below w.heap.size w w' :=
  (ref15_merge_both a b la lb na nb ca cb w hna hnb ha hb hl h1 h2).mono fun _ _ h => ⟨h.1.1 hu, h.2⟩

theorem ref15_merge_yes (a b : Option Addr) (la lb : List Pt) (na nb ca cb : Nat) (w : World) (hna : la.length = na) (hnb : lb.length = nb) (ha : RdK ePt 3 w a la) (hb : RdK ePt 3 w b lb) (hl : na + nb ≤ 1000000) (h1 : rightF la = true) (h2 : rightF lb = true) (hu : unl (la ++ lb) = true) :
    Calls Try.prog 20 #[.slice a na ca, .slice b nb cb] w fun e w' => ∃ v, e = .returned (.tuple #[v, .int .i64 0]) ∧ w'.ownsRow w.heap.size 33 3 v (skyOf (la ++ lb)).length ((skyOf (la ++ lb)).flatMap ePt) ∧ Below w.heap.size w w' :=
  (ref15_merge_both a b la lb na nb ca cb w hna hnb ha hb hl h1 h2).mono fun _ _ h => by obtain ⟨⟨-, h1⟩, h5⟩ := h; obtain ⟨v, h3, h4⟩ := h1 hu; exact ⟨v, h3, h4, h5⟩

set_option maxRecDepth 100000 in
set_option maxHeartbeats 2000000 in
theorem ref15_beats_no (a : Option Addr) (l : List Pt) (n c : Nat) (p : Pt) (w : World) (hn : l.length = n) (h : RdK ePt 3 w a l) (hl : n ≤ 1000000) (hu : rightF l = false) :
    Calls Try.prog 24 #[.slice a n c, vPt p.1 p.2.1 p.2.2] w fun e w' => e = .returned (.tuple #[.bool false, .int .i64 150]) ∧ Below w.heap.size w w' := by
  obtain ⟨px, py, pi⟩ := p
  have C1 := Lib.hid (fun W (hb : Below w.heap.size w W) => ref15_right a l n c W hn (h.below hb) hl)
  rw [hu] at C1
  clear h hu
  go_enter Try.func24, Try.ntmps24
  go_wp2_with fail
  have hb0 := (Below.refl w.heap.size w).alloc (Nat.le_refl _) (.cells #[.int .i64 px, .int .i64 py, .int .u32 pi] 33)
  refine (C1.out _ hb0).mono ?_
  rintro e w1 ⟨rfl, hb1⟩
  go_wp2
  go_ret2
  exact ⟨rfl, hb0.trans (hb1.mono (by simp))⟩

set_option maxRecDepth 100000 in
set_option maxHeartbeats 2000000 in
theorem ref15_beats_yes (a : Option Addr) (l : List Pt) (n c : Nat) (p : Pt) (w : World) (hn : l.length = n) (h : RdK ePt 3 w a l) (hl : n ≤ 1000000) (hu : rightF l = true) :
    Calls Try.prog 24 #[.slice a n c, vPt p.1 p.2.1 p.2.2] w fun e w' => e = .returned (.tuple #[.bool (btn l p), .int .i64 0]) ∧ Below w.heap.size w w' := by
  subst hn
  have C1 := Lib.hid (fun W (hb : Below w.heap.size w W) => ref15_right a l l.length c W rfl (h.below hb) hl)
  rw [hu] at C1
  have HO := Lib.hid (fun q W => ref_over q p W)
  have HR := Lib.hid h
  have HT : Hid (∀ k (hk : k < l.length), btn (l.take (k + 1)) p = (btn (l.take k) p || ovr l[k] p)) := fun k hk => btn_take_succ l p hk
  have HY : Hid (∀ k (hk : k < l.length), ovr l[k] p = true → btn l p = true) := fun k hk h => (btn_iff l p).2 ⟨l[k], List.getElem_mem hk, h⟩
  have HN : Hid (btn (l.take l.length) p = btn l p) := by show _ = _; rw [List.take_length]
  clear h hu
  generalize hbt : btn l p = bt at *
  clear hbt
  obtain ⟨px, py, pi⟩ := p
  go_enter Try.func24, Try.ntmps24
  go_wp2_with fail
  have hb0 := (Below.refl w.heap.size w).alloc (Nat.le_refl _) (.cells #[.int .i64 px, .int .i64 py, .int .u32 pi] 33)
  refine (C1.out _ hb0).mono ?_
  rintro e w1 ⟨rfl, hb1⟩
  have p0 : w1.cell? ⟨w.heap.size, 0, none⟩ = some (.int .i64 px) := (hb1.cell (p := ⟨w.heap.size, 0, none⟩) (by simp)).trans (by rw [World.cell?_alloc_at _ _ _ _ rfl]; rfl)
  have p1 : w1.cell? ⟨w.heap.size, 1, none⟩ = some (.int .i64 py) := (hb1.cell (p := ⟨w.heap.size, 1, none⟩) (by simp)).trans (by rw [World.cell?_alloc_at _ _ _ _ rfl]; rfl)
  have p2 : w1.cell? ⟨w.heap.size, 2, none⟩ = some (.int .u32 pi) := (hb1.cell (p := ⟨w.heap.size, 2, none⟩) (by simp)).trans (by rw [World.cell?_alloc_at _ _ _ _ rfl]; rfl)
  have hlt1 : w.heap.size < w1.heap.size := by have := hb1.size; simp at this; omega
  have B1 := hb0.trans (hb1.mono (by simp))
  have P0 := Lib.hid p0
  have P1 := Lib.hid p1
  have P2 := Lib.hid p2
  have HB1 := Lib.hid B1
  clear hb0 hb1 C1 p0 p1 p2 B1
  go_wp2
  go_loopw [6] (fun kv wr => ∃ k : Nat, kv = .int .i64 k ∧ k ≤ l.length ∧ Hid (btn (l.take k) (px, py, pi) = false) ∧ Below w1.heap.size w1 wr) (fun kv _ => l.length - (intOf kv).toNat)
  case atStart => exact ⟨0, rfl, Nat.zero_le _, by simp [Hid, btn], Below.refl _ _⟩
  case round =>
    obtain ⟨k, rfl, hk, HK, hb⟩ := hrel
    by_cases hkl : k < l.length
    · have BK := Lib.hid (HT.out k hkl)
      have BY := Lib.hid (HY.out k hkl)
      obtain ⟨b, off, ea, hbl, hcs⟩ := (HR.out.below (HB1.out.trans (hb.mono (Nat.le_of_lt hlt1)))).get (by omega)
      have x0 := hcs k hkl 0 (by omega)
      have x1 := hcs k hkl 1 (by omega)
      have x2 := hcs k hkl 2 (by omega)
      simp only [ePt, List.getElem?_cons_zero, List.getElem?_cons_succ, Nat.add_zero] at x0 x1 x2
      have HO2 := Lib.hid (HO.out l[k])
      have EA := Lib.hid ea
      clear hcs ea HT HY
      generalize l[k] = q at *
      obtain ⟨qx, qy, qi⟩ := q
      simp only at x0 x1 x2
      obtain rfl := EA.out
      clear EA
      have kx0 := cell_belowW x0
      have kx1 := cell_belowW x1
      have kx2 := cell_belowW x2
      have q0 := (hb.cell (p := ⟨w.heap.size, 0, none⟩) hlt1).trans P0.out
      have q1 := (hb.cell (p := ⟨w.heap.size, 1, none⟩) hlt1).trans P1.out
      have q2 := (hb.cell (p := ⟨w.heap.size, 2, none⟩) hlt1).trans P2.out
      have ky0 := cell_belowW q0
      have ky1 := cell_belowW q1
      have ky2 := cell_belowW q2
      clear x0 x1 x2 q0 q1 q2
      have hkl2 : (k : Int) < (l.length : Int) := by omega
      have HB := Lib.hid hb
      clear hb
      cases hov : ovr (qx, qy, qi) (px, py, pi)
      · rw [hov, HK.out, Bool.or_self] at BK
        rw [hov] at HO2
        clear BY hov
        go_wp2
        refine wp_region_below (by kernel_rfl) (by kernel_rfl) ?_
        repeat (quiet_step ((go_at_call 44; exact calls_below (HO2.out _))))
        refine wpQuiet_nil ?_
        intro w5 hw'
        have hb6 : Below wr.heap.size wr w5 := by obtain ⟨p, rfl⟩ := hw'; exact p.h
        clear hw'
        go_wp2
        go_roundw
        case rel => exact ⟨k + 1, by go_num, by omega, BK, HB.out.trans (hb6.mono HB.out.size)⟩
        case measure => simp [intOf]; omega
      · have hr := BY.out hov
        rw [hov] at HO2
        clear BK hov BY
        subst hr
        go_wp2
        refine wp_region_below (by kernel_rfl) (by kernel_rfl) ?_
        repeat (quiet_step ((go_at_call 44; exact calls_below (HO2.out _))))
        refine wpQuiet_nil ?_
        intro w5 hw'
        have hb6 : Below wr.heap.size wr w5 := by obtain ⟨p, rfl⟩ := hw'; exact p.h
        clear hw'
        go_wp2
        go_ret2
        exact ⟨rfl, HB1.out.trans ((HB.out.trans (hb6.mono HB.out.size)).mono (Nat.le_of_lt hlt1))⟩
    · obtain rfl : k = l.length := by omega
      have e1 := HN.out.symm.trans HK.out
      subst e1
      go_wp2
      go_ret2
      exact ⟨rfl, HB1.out.trans (hb.mono (Nat.le_of_lt hlt1))⟩

end Go.Proofs.Ytpebefcmloablaa
