/- The law StairBeats, walked. -/
import Derived.Test.YtpebefcmloablaaSkL
import Derived.Test.YtpebefcmloablaaL15w
import Derived.Deep.CutRange
namespace Go.Proofs.Ytpebefcmloablaa
open Go.RowKit Go.Maps
attribute [local irreducible] wpQuiet
set_option linter.unusedSimpArgs false
set_option linter.unusedVariables false

def objPt (p : Pt) : Obj := .cells #[.int .i64 p.1, .int .i64 p.2.1, .int .u32 p.2.2] 33
theorem objPt_cells (W : World) (p : Pt) (b : Nat) (hb : b = W.heap.size) : (W.alloc (objPt p)).cell? ⟨b, 0, none⟩ = some (.int .i64 p.1) ∧ (W.alloc (objPt p)).cell? ⟨b, 1, none⟩ = some (.int .i64 p.2.1) ∧ (W.alloc (objPt p)).cell? ⟨b, 2, none⟩ = some (.int .u32 p.2.2) := by
  subst hb
  exact ⟨by rw [objPt, World.cell?_alloc_at _ _ _ _ rfl]; rfl, by rw [objPt, World.cell?_alloc_at _ _ _ _ rfl]; rfl, by rw [objPt, World.cell?_alloc_at _ _ _ _ rfl]; rfl⟩

set_option maxRecDepth 100000 in
set_option maxHeartbeats 4000000 in
theorem wStairBeats (a : Option Addr) (l : List Pt) (n c : Nat) (p q : Pt) (w : World) (hn : l.length = n) (h : RdK ePt 3 w a l) (hnc : n ≤ c ∧ c ≤ maxLen) (hw : wfI l) :
    Calls Try.prog 8 #[.slice a n c, vPt p.1 p.2.1 p.2.2, vPt q.1 q.2.1 q.2.2] w fun e w' => e = .returned (.bool true) ∧ Below w.heap.size w w' := by
  subst hn
  have AW := Lib.hid awake15
  have HW := Lib.hid hw
  have BW0 : Below w.heap.size w ((w.alloc (objPt p)).alloc (objPt q)) := ((Below.refl _ w).alloc (Nat.le_refl _) _).alloc (by simp) _
  have H := Lib.hid (h.below BW0)
  have hp := objPt_cells w p _ rfl
  have hq := objPt_cells (w.alloc (objPt p)) q (w.heap.size + 1) (by simp)
  have hsz : ((w.alloc (objPt p)).alloc (objPt q)).heap.size = w.heap.size + 2 := by simp
  have hb2 : Below (w.heap.size + 1) (w.alloc (objPt p)) ((w.alloc (objPt p)).alloc (objPt q)) := (Below.refl _ _).alloc (by simp) _
  have hp' : ((w.alloc (objPt p)).alloc (objPt q)).cell? ⟨w.heap.size, 0, none⟩ = some (.int .i64 p.1) ∧ ((w.alloc (objPt p)).alloc (objPt q)).cell? ⟨w.heap.size, 1, none⟩ = some (.int .i64 p.2.1) ∧ ((w.alloc (objPt p)).alloc (objPt q)).cell? ⟨w.heap.size, 2, none⟩ = some (.int .u32 p.2.2) :=
    ⟨(hb2.cell (p := ⟨w.heap.size, 0, none⟩) (by simp)).trans hp.1, (hb2.cell (p := ⟨w.heap.size, 1, none⟩) (by simp)).trans hp.2.1, (hb2.cell (p := ⟨w.heap.size, 2, none⟩) (by simp)).trans hp.2.2⟩
  have HB0 := Lib.hid BW0
  clear h hw hp hb2 BW0
  obtain ⟨px, py, pi⟩ := p
  obtain ⟨qx, qy, qi⟩ := q
  simp only [objPt] at *
  obtain ⟨w0, hw0⟩ : ∃ w0, w0 = (w.alloc (.cells #[.int .i64 px, .int .i64 py, .int .u32 pi] 33)).alloc (.cells #[.int .i64 qx, .int .i64 qy, .int .u32 qi] 33) := ⟨_, rfl⟩
  have CF : Hid (∀ W, Below w0.heap.size w0 W → (W.cell? ⟨w.heap.size, 0, none⟩ = some (.int .i64 px) ∧ W.cell? ⟨w.heap.size, 1, none⟩ = some (.int .i64 py) ∧ W.cell? ⟨w.heap.size, 2, none⟩ = some (.int .u32 pi)) ∧ W.cell? ⟨w.heap.size + 1, 0, none⟩ = some (.int .i64 qx) ∧ W.cell? ⟨w.heap.size + 1, 1, none⟩ = some (.int .i64 qy) ∧ W.cell? ⟨w.heap.size + 1, 2, none⟩ = some (.int .u32 qi)) := fun W hW => by
    have h1 : w.heap.size < w0.heap.size := by rw [hw0, hsz]; omega
    have h2 : w.heap.size + 1 < w0.heap.size := by rw [hw0, hsz]; omega
    rw [← hw0] at hp' hq
    exact ⟨⟨(hW.cell (p := ⟨w.heap.size, 0, none⟩) h1).trans hp'.1, (hW.cell (p := ⟨w.heap.size, 1, none⟩) h1).trans hp'.2.1, (hW.cell (p := ⟨w.heap.size, 2, none⟩) h1).trans hp'.2.2⟩, (hW.cell (p := ⟨w.heap.size + 1, 0, none⟩) h2).trans hq.1, (hW.cell (p := ⟨w.heap.size + 1, 1, none⟩) h2).trans hq.2.1, (hW.cell (p := ⟨w.heap.size + 1, 2, none⟩) h2).trans hq.2.2⟩
  have hsw : w.heap.size ≤ w0.heap.size := by rw [hw0, hsz]; omega
  rw [← hw0] at HB0 H
  clear hp' hq hsz
  have HW0 := Lib.hid hw0
  clear hw0
  by_cases h100 : 100 < l.length
  · go_enter Try.func8, Try.ntmps8
    go_wp2_with fail
    rw [← HW0.out]
    refine (AW.out w0).mono ?_
    rintro e w1 ⟨rfl, hb⟩
    go_wp2_with fail
    go_ret
    exact ⟨rfl, HB0.out.trans (hb.mono hsw)⟩
  · have C1 := Lib.hid (unlike15 a l l.length c w0 rfl H.out (by omega))
    rcases Bool.eq_false_or_eq_true (unl l) with hu | hu
    rotate_left
    · rw [hu] at C1
      clear hu H HW
      go_enter Try.func8, Try.ntmps8
      go_wp2_with fail
      rw [← HW0.out]
      refine C1.out.mono ?_
      rintro e w1 ⟨rfl, hb⟩
      go_wp2_with fail
      refine (AW.out w1).mono ?_
      rintro e w2 ⟨rfl, hb2⟩
      go_wp2_with fail
      go_ret
      exact ⟨rfl, HB0.out.trans ((hb.trans (hb2.mono hb.size)).mono hsw)⟩
    · rw [hu] at C1
      have HU := Lib.hid hu
      clear hu
      have hsk := skyOf_len (l := l)
      have hIS := (skyOf_is ((unl_iff l).1 HU.out)).self
      have O1 := Lib.hid (fun W hr => ofC l HU.out HW.out (by omega) a l.length c W rfl hr)
      have hS100 : (skyOf l).length ≤ 100 := by omega
      have BY := Lib.hid (fun (x : Option Addr) (cx : Nat) (r : Pt) W hr => beats_yes x (skyOf l) (skyOf l).length cx r W rfl hr (by omega) (wfI_sky HU.out HW.out) (rightF_sky HU.out))
      have HZ : Hid (∀ k (hk : k < (skyOf l).length), btn (skyOf l) (skyOf l)[k] = false) := fun k hk => ((hIS.2 _).1 (List.getElem_mem hk)).2
      have HT : Hid (∀ k (hk : k < (skyOf l).length), btn ((skyOf l).take (k + 1)) (px, py, pi) = (btn ((skyOf l).take k) (px, py, pi) || ovr (skyOf l)[k] (px, py, pi))) := fun k hk => btn_take_succ _ _ hk
      have HE : Hid (btn ((skyOf l).take (skyOf l).length) (px, py, pi) = btn (skyOf l) (px, py, pi)) := by show _ = _; rw [List.take_length]
      have HTR : Hid (btn (skyOf l) (px, py, pi) = true → ovr (px, py, pi) (qx, qy, qi) = true → btn (skyOf l) (qx, qy, qi) = true) := fun h1 h2 => by
        rw [btn_iff] at h1 ⊢
        obtain ⟨r, hr, h3⟩ := h1
        exact ⟨r, hr, ovr_trans h3 h2⟩
      clear hsk hIS HU HW
      generalize skyOf l = S at *
      have hbl := bitLen_mono (show S.length ≤ 100 from hS100) (by decide)
      have hbl2 : Lib.bitLen 100 = 7 := by decide
      have RL := rLog
      have hlg := rkLog_succ S.length
      go_enter Try.func8, Try.ntmps8
      go_wp2_with fail
      rw [← HW0.out]
      refine C1.out.mono ?_
      rintro e w1 ⟨rfl, hb1⟩
      go_wp2_with fail
      refine (O1.out w1 (H.out.below hb1)).mono ?_
      rintro e w2 ⟨a2, c2, rfl, hc2, R2, hb2⟩
      have B2 := hb1.trans (hb2.mono hb1.size)
      obtain ⟨⟨p0, p1, p2⟩, q0, q1, q2⟩ := CF.out w2 B2
      go_wp2_with fail
      refine (BY.out a2 c2 (px, py, pi) w2 R2.out).mono ?_
      rintro e w3 ⟨⟨k1, rfl, hk1⟩, hb3⟩
      have B3 := B2.trans (hb3.mono B2.size)
      have R3 := Lib.hid (R2.out.below hb3)
      clear p0 p1 p2 q0 q1 q2
      obtain ⟨⟨p0, p1, p2⟩, q0, q1, q2⟩ := CF.out w3 B3
      go_wp2_with fail
      refine (BY.out a2 c2 (qx, qy, qi) w3 R3.out).mono ?_
      rintro e w4 ⟨⟨k2, rfl, hk2⟩, hb4⟩
      have B4 := B3.trans (hb4.mono B3.size)
      have R4 := Lib.hid (R3.out.below hb4)
      clear p0 p1 p2 q0 q1 q2
      go_wp2_with fail
      refine (RL ((S.length : Int) + 1) w4 (by omega)).mono ?_
      rintro e w5 ⟨rfl, hb5⟩
      rw [hlg (by omega)]
      have B5 := B4.trans (hb5.mono B4.size)
      have R5 := Lib.hid (R4.out.below hb5)
      clear R2 R3 R4 hb1 hb2 hb3 hb4 hb5 B2 B3 B4 hlg RL
      obtain ⟨⟨p0, p1, p2⟩, q0, q1, q2⟩ := CF.out w5 B5
      generalize Lib.bitLen S.length = L at *
      have hL : L ≤ 7 := by omega
      have d1 : decide ((k1 : Int) < 0) = false := by simp
      have d2 : decide ((k2 : Int) < 0) = false := by simp
      have d3 : decide ((L : Int) + 1 < (k1 : Int)) = false := by simp only [decide_eq_false_iff_not]; omega
      have d4 : decide ((L : Int) + 1 < (k2 : Int)) = false := by simp only [decide_eq_false_iff_not]; omega
      have OV := over_below (px, py, pi) (qx, qy, qi)
      generalize hxb : btn S (px, py, pi) = xb at *
      generalize hyb : btn S (qx, qy, qi) = yb at *
      clear hxb hyb
      go_upto_region 7 with fail
      go_cut [94] from 55 to 94 (fun v wx => v = .bool false ∧ Below w5.heap.size w5 wx)
      case first =>
        cases xb
        · go_wp2_with fail
          go_meet
          exact ⟨rfl, Below.refl _ _⟩
        · have HTR2 := HTR.out rfl
          rcases Bool.eq_false_or_eq_true (ovr (px, py, pi) (qx, qy, qi)) with hy | hy
          rotate_left
          · rw [hy] at OV
            go_wp2_with fail
            refine (OV _).mono ?_
            rintro e w6 ⟨rfl, hb6⟩
            go_wp2_with fail
            go_meet
            exact ⟨rfl, hb6⟩
          · rw [hy] at OV
            have := HTR2 hy
            subst this
            go_wp2_with fail
            refine (OV _).mono ?_
            rintro e w6 ⟨rfl, hb6⟩
            go_wp2_with fail
            go_meet
            exact ⟨rfl, hb6⟩
      case rest =>
        obtain ⟨rfl, hb6⟩ := hcut
        have B6 := B5.trans (hb6.mono B5.size)
        have HB6 := Lib.hid B6
        have R6 := Lib.hid (R5.out.below hb6)
        clear p0 p1 p2 q0 q1 q2 d1 d2 d3 d4 OV hb6 B5 R5 B6 HTR
        go_wp2
        go_loopw [97, 16] (fun kv bv wr => ∃ k : Nat, kv = .int .i64 k ∧ k ≤ S.length ∧ bv = .bool (btn (S.take k) (px, py, pi)) ∧ Below wc.heap.size wc wr) (fun kv _ _ => S.length - (intOf kv).toNat)
        case atStart => exact ⟨0, rfl, Nat.zero_le _, rfl, Below.refl _ _⟩
        case round =>
          obtain ⟨k, rfl, hk, rfl, hb⟩ := hrel
          by_cases hkl : k < S.length
          · have BK := Lib.hid (HT.out k hkl)
            have BZ := HZ.out k hkl
            have BR := HB6.out.trans (hb.mono HB6.out.size)
            have RR := Lib.hid (R6.out.below hb)
            obtain ⟨b, off, ea, hbl, hcs⟩ := RR.out.get (by omega)
            have x0 := hcs k hkl 0 (by omega)
            have x1 := hcs k hkl 1 (by omega)
            have x2 := hcs k hkl 2 (by omega)
            simp only [ePt, List.getElem?_cons_zero, List.getElem?_cons_succ, Nat.add_zero] at x0 x1 x2
            have CY := BY.out a2 c2 S[k]
            rw [BZ] at CY
            have EA := Lib.hid ea
            have OV := fun W => over_below S[k] (px, py, pi) W
            clear hcs ea BZ
            obtain ⟨⟨p0, p1, p2⟩, -⟩ := CF.out wr BR
            have hlp : w.heap.size < wr.heap.size := World.block_lt_of_cell? wr _ p0
            generalize S[k] = r at *
            obtain ⟨rx, ry, ri⟩ := r
            have hkl2 : (k : Int) < (S.length : Int) := by omega
            simp only at x0 x1 x2
            obtain rfl := EA.out
            clear EA
            have BA : Below wr.heap.size wr (wr.alloc (.cells #[.int .i64 rx, .int .i64 ry, .int .u32 ri] 33)) := (Below.refl _ _).alloc (Nat.le_refl _) _
            have p0' := (BA.cell (p := ⟨w.heap.size, 0, none⟩) hlp).trans p0
            have p1' := (BA.cell (p := ⟨w.heap.size, 1, none⟩) hlp).trans p1
            have p2' := (BA.cell (p := ⟨w.heap.size, 2, none⟩) hlp).trans p2
            have rs := objPt_cells wr (rx, ry, ri) _ rfl
            simp only [objPt] at rs
            obtain ⟨r0, r1, r2⟩ := rs
            have HBr := Lib.hid hb
            have HBA := Lib.hid BA
            clear hb BA BR
            generalize hbt : btn (S.take k) (px, py, pi) = be at *
            clear hbt
            cases be
            · simp only [Bool.false_or] at BK
              go_wp2_with fail
              refine (OV _).mono ?_
              rintro e w7 ⟨rfl, hb7⟩
              have B7 := HBA.out.trans (hb7.mono (by simp))
              have R7 := Lib.hid (RR.out.below B7)
              have s0 := (hb7.cell (p := ⟨wr.heap.size, 0, none⟩) (by simp)).trans r0
              have s1 := (hb7.cell (p := ⟨wr.heap.size, 1, none⟩) (by simp)).trans r1
              have s2 := (hb7.cell (p := ⟨wr.heap.size, 2, none⟩) (by simp)).trans r2
              clear p0 p1 p2 p0' p1' p2' r0 r1 r2 hb7 x0 x1 x2
              go_wp2_with fail
              refine (CY w7 R7.out).mono ?_
              rintro e w8 ⟨⟨k8, rfl, -⟩, hb8⟩
              have B8 := HBr.out.trans ((B7.trans (hb8.mono B7.size)).mono HBr.out.size)
              clear hb8 B7 s0 s1 s2
              go_wp2
              go_roundw
              case rel => exact ⟨k + 1, by go_num, by omega, by rw [BK.out], B8⟩
              case measure => simp [intOf]; omega
            · simp only [Bool.true_or] at BK
              have R7 := Lib.hid (RR.out.below HBA.out)
              clear p0 p1 p2 p0' p1' p2'
              go_wp2_with fail
              refine (CY _ R7.out).mono ?_
              rintro e w8 ⟨⟨k8, rfl, -⟩, hb8⟩
              have B8 := HBr.out.trans ((HBA.out.trans (hb8.mono (by simp))).mono HBr.out.size)
              clear hb8 r0 r1 r2 x0 x1 x2
              go_wp2
              go_roundw
              case rel => exact ⟨k + 1, by go_num, by omega, by rw [BK.out], B8⟩
              case measure => simp [intOf]; omega
          · obtain rfl : k = S.length := by omega
            rw [HE.out]
            have B9 := HB6.out.trans (hb.mono HB6.out.size)
            clear hb
            have db : (xb == xb) = true := by simp
            go_wp2_with fail
            refine (AW.out wr).mono ?_
            rintro e w9 ⟨rfl, hb9⟩
            go_wp2_with fail
            go_ret
            exact ⟨rfl, HB0.out.trans ((B9.trans (hb9.mono B9.size)).mono hsw)⟩
end Go.Proofs.Ytpebefcmloablaa
