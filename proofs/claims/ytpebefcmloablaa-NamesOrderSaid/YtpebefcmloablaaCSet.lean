/- carry.Set at entries. -/
import Derived.Test.YtpebefcmloablaaSetP
import Derived.Deep.CutBlock
namespace Go.Proofs.Ytpebefcmloablaa
open Go.RowKit Go.Maps
attribute [local irreducible] wpQuiet
set_option linter.unusedSimpArgs false
set_option linter.unusedVariables false

def SetP (W : World) (base Cb : Nat) (l : List Ent) (e : Ending) (w' : World) : Prop :=
  ∃ (cv' : Value) (ch' : List Hdr) (wk' : Int), e = .returned (.int .i64 l.length) ∧ CarAt w' base Cb cv' ch' l.length wk' ∧ RowsE w' ch' ∧ ch'.map (·.2.1) = setC (Lib.bitLen l.length) l ∧
    (cv'.ownBlock = none ∨ ∃ b, cv'.ownBlock = some b ∧ W.heap.size ≤ b) ∧ KpS (fun k => k = Cb) W w'

theorem repl_snoc (k : Nat) : List.replicate (k + 1) nilH = List.replicate k nilH ++ [nilH] := List.replicate_succ'
theorem repl_rows (W : World) (k : Nat) : RowsE W (List.replicate k nilH) := fun h hh => by
  rw [(List.mem_replicate.1 hh).2]
  exact ⟨.inl rfl, Nat.le_refl _⟩

theorem repl_set (m : Nat) (T : List (List Ent)) (x : List Ent) : (List.replicate (m + 1) [] ++ T).set m x = List.replicate m [] ++ x :: T := by
  rw [List.replicate_succ', List.append_assoc, List.set_append_right _ _ (by simp), List.length_replicate, Nat.sub_self]
  rfl

theorem rows_set {W W' : World} {ch : List Hdr} {m : Nat} {hd : Hdr} (h : RowsE W ch) (hk : ∀ (b : Nat) cur fr, W.heap[b]? = some (Obj.cells cur 86 fr) → W'.heap[b]? = W.heap[b]?) (hd1 : RdE W hd.1 hd.2.1) (hd2 : hd.2.1.length ≤ hd.2.2) : RowsE W' (ch.set m hd) := fun x hx => by
  rcases List.mem_or_eq_of_mem_set hx with h1 | rfl
  · exact ⟨(h x h1).1.kept hk, (h x h1).2⟩
  · exact ⟨hd1.kept hk, hd2⟩

set_option maxRecDepth 100000 in
set_option maxHeartbeats 8000000 in
theorem car_set {W : World} {base Cb : Nat} {cv : Value} {ch : List Hdr} {N wk : Int} (h : CarAt W base Cb cv ch N wk) (hbW : base ≤ W.heap.size) (a : Option Addr) (l : List Ent) (c : Nat) (hl : RdE W a l) (hc : l.length ≤ c) (hL : l.length ≤ 10000) :
    Calls Try.prog 71 #[.pointer (some ⟨Cb, 0, none⟩), .slice a l.length c] W (SetP W base Cb l) := by
  have CN := Lib.hid (car_none h)
  have H := Lib.hid h
  have hK := bitLen_mono hL (by decide)
  have hK2 : Lib.bitLen 10000 = 14 := by decide
  rw [hK2] at hK
  have HLL := Lib.hid hl
  have HLT0 : l.length < 2 ^ Lib.bitLen l.length := by
    by_cases h0 : l.length = 0
    · rw [h0]; decide
    · exact (bitLen_pos_bounds _ (by omega) h0).2.2
  have HLT := Lib.hid HLT0
  clear HLT0
  clear h hl
  go_enter Try.func71, Try.ntmps71
  go_wp2_with fail
  refine CN.out.mono ?_
  rintro e w2 ⟨rfl, hb2⟩
  have C2 := Lib.hid (H.out.below hb2)
  obtain ⟨c0, c1, c2, c3⟩ := C2.out.cell
  have f1 := C2.out.frozen 1
  have S1 : Hid (CarAt (w2.setCell ⟨Cb, 1, none⟩ (.slice none 0 0)) base Cb (.slice none 0 0) [] N wk) := CarAt.setV (ch := ch) C2.out.blk C2.out.hb (World.ownsRow_nil _ _ _ _) (by simp [Value.ownBlock])
  obtain ⟨d0, d1, d2, d3⟩ := S1.out.cell
  have f2 := S1.out.frozen 2
  have S2 : Hid (CarAt ((w2.setCell ⟨Cb, 1, none⟩ (.slice none 0 0)).setCell ⟨Cb, 2, none⟩ (.int .i64 l.length)) base Cb (.slice none 0 0) [] l.length wk) := S1.out.setN _
  have K2 : Hid (KpS (fun k => k = Cb) W ((w2.setCell ⟨Cb, 1, none⟩ (.slice none 0 0)).setCell ⟨Cb, 2, none⟩ (.int .i64 l.length))) := (((KpS.refl (fun k => k = Cb) W).below hb2).set (a := ⟨Cb, 1, none⟩) _ (.inl rfl)).set (a := ⟨Cb, 2, none⟩) _ (.inl rfl)
  have hCbW := H.out.lt
  clear CN
  go_upto_block 0 with fail
  go_cut [] from 19 to 33 (fun wx => ∃ v, Hid (CarAt wx base Cb v (List.replicate (Lib.bitLen l.length) nilH) l.length wk) ∧ Hid (v.ownBlock = none ∨ ∃ b, v.ownBlock = some b ∧ W.heap.size ≤ b) ∧ Hid (KpS (fun k => k = Cb) W wx))
  case first =>
    go_wp2_with fail
    generalize ((w2.setCell ⟨Cb, 1, none⟩ (.slice none 0 0)).setCell ⟨Cb, 2, none⟩ (.int .i64 l.length)) = w3 at *
    go_loopw [5] (fun nv wr => ∃ (k m : Nat) (v : Value), nv = .int .i64 m ∧ m ≤ 10000 ∧ Hid (k + Lib.bitLen m = Lib.bitLen l.length) ∧ Hid (CarAt wr base Cb v (List.replicate k nilH) l.length wk) ∧ Hid (v.ownBlock = none ∨ ∃ b, v.ownBlock = some b ∧ W.heap.size ≤ b) ∧ Hid (KpS (fun k => k = Cb) W wr)) (fun nv _ => (intOf nv).toNat)
    case atStart => exact ⟨0, l.length, _, rfl, hL, (by show _ = _; omega), S2, .inl rfl, K2⟩
    case round =>
      obtain ⟨k, m, v, rfl, hm, HKM, HC, HV, HK⟩ := hrel
      by_cases hm0 : m = 0
      · subst hm0
        obtain rfl : k = Lib.bitLen l.length := HKM.out
        go_wp2_with fail
        go_meet
        exact ⟨v, HC, HV, HK⟩
      · have HH : Hid (k + 1 + Lib.bitLen (m / 2) = Lib.bitLen l.length) := by
          have := Lib.bitLen_half m hm0 (by omega)
          have := HKM.out
          show _ = _
          omega
        have hk14 : k + 1 ≤ 14 := by have := HH.out; omega
        have hrow := HC.out.row
        rw [List.length_replicate] at hrow
        have hne := HC.out.ne
        have hmp : (0 : Int) < (m : Int) := by omega
        obtain ⟨b0, b1, b2, b3⟩ := HC.out.cell
        have HNB : Hid (∀ w6, wr.grownBy w6 v.ownBlock → w6.heap[Cb]? = some (Obj.cells #[.bool true, v, .int .i64 l.length, .int .i64 wk] 105 (0, 0))) := fun w6 hg => (hg.block Cb HC.out.lt (fun e => HC.out.ne e.symm)).trans HC.out.blk
        go_wp2_with (at_builtin; refine wp_append1B elHdr base hrow [.slice none 0 0] rfl (by simp [Value.oneCell']) rfl _ _ rfl rfl _ rfl (by unfold maxLen; omega) (by omega) (by have := HK.out.size; omega) ?_; intro v' w6 hown' hg hblk; obtain ⟨g6, cp6, rfl, hg61, hg62, hg63, hg64⟩ := ownRow_at hown' (by omega); have k6 := HNB.out w6 hg; have q1 : w6.cell? ⟨Cb, 1, none⟩ = some v := (by simp [World.cell?, k6]); have q2 : w6.frozen? ⟨Cb, 1, none⟩ = false := (by simp [World.frozen?, k6]))
        have hCbr := HC.out.lt
        have hown2 : w6.ownsRow base 89 1 (.slice (some ⟨g6, 0, none⟩) (k + 1) cp6) (List.replicate (k + 1) nilH).length ((List.replicate (k + 1) nilH).map eHdr) := by
          rw [List.length_replicate, repl_snoc, List.map_append]
          exact hown'
        have hv' : Value.ownBlock (.slice (some ⟨g6, 0, none⟩) (k + 1) cp6) ≠ some Cb := by
          rcases hblk with h9 | h9
          · rw [h9]; exact hne
          · rw [h9]; simp; omega
        go_roundw
        case rel =>
          refine ⟨k + 1, m / 2, _, by go_num, by omega, HH, CarAt.setV (ch := List.replicate k nilH) k6 HC.out.hb hown2 hv', ?_, (HK.out.grown hg ?_).set (a := ⟨Cb, 1, none⟩) _ (.inl rfl)⟩
          · rcases hblk with h9 | h9
            · rw [h9]; exact HV
            · exact .inr ⟨_, h9, by have := HK.out.size; simp; omega⟩
          · intro b hb
            rcases HV.out with h9 | ⟨b', h9, h8⟩
            · rw [h9] at hb; cases hb
            · rw [h9] at hb; injection hb with hb; subst hb; exact .inr h8
        case measure => simp [intOf]; omega
  case rest =>
    obtain ⟨v, HC, HV, HK⟩ := hcut
    obtain ⟨w3, ew3⟩ : ∃ w3 : World, w3 = wc := ⟨_, rfl⟩
    subst ew3
    clear S1 S2 K2 c0 c1 c2 c3 f1 f2 d0 d1 d2 d3 C2 hb2
    generalize hKK : Lib.bitLen l.length = K at *
    obtain ⟨SB, hSB⟩ : ∃ SB, SB = v.ownBlock := ⟨_, rfl⟩
    have HRD : Hid (∀ W', KpS (fun k => k = Cb ∨ SB = some k) w3 W' → RdK eEnt 2 W' a l) := fun W' hk => ((HLL.out.kept (H.out.entKept rfl (HK.out.mono (fun k h => .inl h)))).kept (HC.out.entKept hSB hk)).rdk
    have HSB := Lib.hid hSB
    clear hSB
    have HC0 := HC.out
    have HR0 : Hid (RowsE w3 (List.replicate K nilH)) := repl_rows _ _
    have HM0 : Hid ((List.replicate K nilH).map (·.2.1) = List.replicate K [] ++ []) := by show _ = _; simp
    have HLK : Hid (l.length = l.length % 2 ^ K) := (Nat.mod_eq_of_lt HLT.out).symm
    obtain ⟨av, cp, hv, -, hcp, -⟩ := Rd.of_owns (enc := eHdr) HC0.row
    rw [List.length_replicate] at hv hcp
    subst hv
    obtain ⟨e0, e1, e2, e3⟩ := HC0.cell
    clear HC0
    go_upto_block 2 with fail
    go_cut [] from 35 to 64 (fun wx => ∃ ch1, Hid (CarAt wx base Cb (.slice av K cp) ch1 l.length wk) ∧ Hid (RowsE wx ch1) ∧ Hid (ch1.map (·.2.1) = setC K l) ∧ Hid (KpS (fun k => k = Cb ∨ SB = some k) w3 wx))
    case first =>
      go_wp2_with fail
      go_loopw [7, 6] (fun iv rv wr => ∃ (m : Nat) (ad : Option Addr) (r : List Ent) (c' : Nat) (ch1 : List Hdr) (T : List (List Ent)), iv = .int .i64 ((m : Int) - 1) ∧ rv = .slice ad r.length c' ∧ m ≤ K ∧ r.length ≤ c' ∧ Hid (r.length = l.length % 2 ^ m) ∧ Hid (∀ W', KpS (fun k => k = Cb ∨ SB = some k) w3 W' → RdK eEnt 2 W' ad r) ∧
        Hid (CarAt wr base Cb (.slice av K cp) ch1 l.length wk) ∧ Hid (RowsE wr ch1) ∧ Hid (ch1.map (·.2.1) = List.replicate m [] ++ T) ∧ Hid (setC K l = setC m r ++ T) ∧ Hid (KpS (fun k => k = Cb ∨ SB = some k) w3 wr)) (fun iv _ _ => (intOf iv + 1).toNat)
      case atStart => exact ⟨K, a, l, c, _, [], by go_num, rfl, Nat.le_refl _, hc, HLK, HRD, HC, HR0, HM0, (by show _ = _; simp), KpS.refl _ _⟩
      case round =>
        obtain ⟨m, ad, r, c', ch1, T, rfl, rfl, hm, hrc, HRL, HRR, HC1, HR1, HM1, HS1, HK1⟩ := hrel
        rcases Nat.eq_zero_or_pos m with hm0 | hm0
        · subst hm0
          have hg0 : ¬ (0 : Int) ≤ ((0 : Nat) : Int) - 1 := by omega
          go_wp2_with fail
          go_meet
          exact ⟨ch1, HC1, HR1, (by have h1 := HM1.out; have h2 := HS1.out; show _ = _; rw [h1, h2]; rfl), HK1⟩
        · obtain ⟨k, rfl⟩ : ∃ k, m = k + 1 := ⟨m - 1, by omega⟩
          have hk14 : k < 14 := by omega
          have hms := mod_step l.length k
          have hlr : r.length ≤ l.length := by rw [HRL.out]; exact Nat.mod_le _ _
          have QS := q_wrap k hk14
          have QA := q_and l.length k hk14 hL
          have hp := two_pow_lt k hk14
          have hki : (((k + 1 : Nat) : Int) - 1) = (k : Int) := by omega
          have hk0 : (0 : Int) ≤ (k : Int) := by omega
          have hcl : ch1.length = K := by
            have h1 := congrArg List.length HM1.out
            have h2 := congrArg List.length HS1.out
            rw [setC_len, List.length_append, setC_len] at h2
            simp at h1
            omega
          rw [hki]
          by_cases hb : l.length.testBit k = true
          · rw [hb] at QA
            simp only [if_true] at QA
            have hrl2 := hms.1 hb
            rw [← HRL.out] at hrl2
            have hpr : 2 ^ k ≤ r.length := by omega
            have HS2 : Hid (setC K l = setC k (r.drop (2 ^ k)) ++ r.take (2 ^ k) :: T) := by
              have h1 := HS1.out
              rw [setC, if_pos hpr, List.append_assoc] at h1
              exact h1
            have HM2 : Hid (∀ hd : Hdr, hd.2.1 = r.take (2 ^ k) → (ch1.set k hd).map (·.2.1) = List.replicate k [] ++ r.take (2 ^ k) :: T) := fun hd h9 => by
              rw [List.map_set, HM1.out, h9, repl_set]
            have HRL2 : Hid ((r.drop (2 ^ k)).length = l.length % 2 ^ k) := by
              show _ = _
              rw [List.length_drop]
              omega
            clear hms hb hrl2
            generalize hpe : 2 ^ k = p at *
            have HPE := Lib.hid hpe
            clear hpe
            obtain ⟨b, off, ea, hbl, -⟩ := (HRR.out wr HK1.out).get (by omega)
            subst ea
            obtain ⟨g, cp', e9, hg1, hg2, -, -⟩ := ownRow_at HC1.out.row (by omega)
            rw [hcl] at e9
            injection e9 with e9 _ e10
            subst e9 e10
            obtain ⟨b0, b1, b2, b3⟩ := HC1.out.cell
            have htl : (r.take p).length = p := by rw [List.length_take]; omega
            have CL := Lib.hid (cloneEnt (some ⟨b, off, none⟩) (r.take p) p c' wr.drew htl ((HRR.out wr.drew HK1.out.drew).take p) (by omega))
            have hpi : (0 : Int) ≤ (p : Int) ∧ (p : Int) ≤ (r.length : Int) := by omega
            have hpc : (p : Int) ≤ (c' : Int) := by omega
            have hpn : ((p : Int) != 0) = true := by simp only [bne_iff_ne, ne_eq]; omega
            go_upto_region 14 with fail
            simp only [QS, QA, hpn]
            go_cut [] from 52 to 61 (fun wx => ∃ ch2, Hid (CarAt wx base Cb (.slice (some ⟨g, 0, none⟩) K cp) ch2 l.length wk) ∧ Hid (RowsE wx ch2) ∧ Hid (ch2.map (·.2.1) = List.replicate k [] ++ r.take p :: T) ∧ Hid (KpS (fun k => k = Cb ∨ SB = some k) w3 wx))
            case first =>
              have CL2 : Calls Try.prog 66 #[.slice (some ⟨b, off, none⟩) p c'] wr.drew fun e w6 => ∃ a6 cp6 z, e = .returned (.slice a6 p cp6) ∧ Hid (p ≤ cp6) ∧ Hid (RdE w6 a6 (r.take p)) ∧ Hid (CarAt w6 base Cb (.slice (some ⟨g, 0, none⟩) K cp) ch1 l.length wk) ∧ Hid (Below wr.drew.heap.size wr.drew w6) ∧ w6.cell? ⟨Cb, 1, none⟩ = some (.slice (some ⟨g, 0, none⟩) K cp) ∧ w6.cell? ⟨g, k, none⟩ = some z ∧ w6.frozen? ⟨g, k, none⟩ = false := by
                refine CL.out.mono ?_
                rintro e w6 ⟨v6, rfl, hown, hb6⟩
                obtain ⟨a6, cp6, rfl, h61, h62, hRE⟩ := RdE.of_owns hown
                have C6 := HC1.out.drew.below hb6
                obtain ⟨g0, g1, g2, g3⟩ := C6.cell
                have hrow := C6.row
                rw [hcl] at hrow
                have z6 := hrow.cellAt k (by omega)
                have fz6 := hrow.frozenAt k
                rw [List.getElem?_eq_getElem (show k < (ch1.map eHdr).length by simp; omega)] at z6
                rw [htl] at h62
                exact ⟨a6, cp6, _, by rw [htl], h62, hRE, C6, hb6, g1, z6, fz6⟩
              clear CL
              have hki2 : (k : Int) < (K : Int) := by omega
              go_region_with (go_at_call 66; with_reducible refine CL2.mono ?_; rintro e w6 ⟨a6, cp6, z, rfl, HCP, HRE, HC6, HB6, g1, z6, fz6⟩)
              all_goals go_wp2_with fail
              all_goals go_meet
              all_goals
                have hl9 : Value.slice a6 p cp6 = eHdr (a6, r.take p, cp6) := by unfold eHdr; simp only; rw [htl]
                rw [hl9]
                have hgSB : SB = some g := HSB.out
                exact ⟨ch1.set k (a6, r.take p, cp6), HC6.out.setH hcl.symm k _, rows_set (HR1.out.kept (W' := w6) fun b cur fr hb => below_heap (W := wr.drew) HB6.out hb) (HC6.out.entKept (W' := w6.setCell ⟨g, k, none⟩ (eHdr (a6, r.take p, cp6))) rfl ((KpS.refl _ w6).set (a := ⟨g, k, none⟩) _ (.inl (.inr rfl)))) HRE.out (by show (r.take p).length ≤ cp6; rw [htl]; exact HCP.out), HM2.out _ rfl, (((HK1.out.drew).below HB6.out).set (a := ⟨g, k, none⟩) _ (.inl (.inr hgSB)))⟩
            case rest =>
              obtain ⟨ch2, HC2, HR2, HM3, HK2⟩ := hcut
              clear CL HC1 HR1 HM1 HM2 HK1 b0 b1 b2 b3 hbl hpn HRL
              go_wp2_with (refine wp_sliceKA elEnt (HRR.out _ HK2.out) hrc p r.length hpr (Nat.le_refl _) rfl _ _ _ rfl rfl rfl rfl ?_; intro ad' hr; simp only [List.take_length] at hr)
              go_roundw
              case rel => exact ⟨k, ad', r.drop p, c' - p, ch2, r.take p :: T, rfl, (by rw [List.length_drop]), by omega, (by rw [List.length_drop]; omega), (by rw [HPE.out]; exact HRL2), (fun W' hk => hr W' (HRR.out W' hk)), HC2, HR2, HM3, HS2, HK2⟩
              case measure => simp [intOf]
          · have hb2 : l.length.testBit k = false := by simpa using hb
            rw [hb2] at QA
            simp only [if_false, Bool.false_eq_true] at QA
            have hrl2 := hms.2 hb2
            rw [← HRL.out] at hrl2
            have hpr : ¬ 2 ^ k ≤ r.length := by have := Nat.mod_lt l.length (Nat.pow_pos (n := k) (show 0 < 2 by decide)); omega
            have HS2 : Hid (setC K l = setC k r ++ [] :: T) := by
              have h1 := HS1.out
              rw [setC, if_neg hpr, List.append_assoc] at h1
              exact h1
            have HM2 : Hid (ch1.map (·.2.1) = List.replicate k [] ++ [] :: T) := by
              have h1 := HM1.out
              rw [List.replicate_succ', List.append_assoc] at h1
              exact h1
            have HRL2 := Lib.hid hrl2
            clear hms hb hb2 hrl2
            generalize hpe : 2 ^ k = p at *
            have HPE := Lib.hid hpe
            clear hpe
            go_wp2_with fail
            go_roundw
            case rel => exact ⟨k, ad, r, c', ch1, [] :: T, rfl, rfl, by omega, hrc, by rw [HPE.out]; exact HRL2, HRR, HC1, HR1, HM2, HS2, HK1⟩
            case measure => simp [intOf]
    case rest =>
      obtain ⟨ch1, HC1, HR1, HM1, HK1⟩ := hcut
      obtain ⟨b0, b1, b2, b3⟩ := HC1.out.cell
      have fr3 := HC1.out.frozen 3
      have HC3 := Lib.hid (HC1.out.setW (wrap64 (wk + (l.length : Int))))
      have HR3 : Hid (RowsE (wc.setCell ⟨Cb, 3, none⟩ (.int .i64 (wrap64 (wk + (l.length : Int))))) ch1) := HR1.out.kept (HC1.out.entKept rfl ((KpS.refl _ wc).set (a := ⟨Cb, 3, none⟩) _ (.inl (.inl rfl))))
      have HK3 : Hid (KpS (fun k => k = Cb) W (wc.setCell ⟨Cb, 3, none⟩ (.int .i64 (wrap64 (wk + (l.length : Int)))))) := by
        have hs := HK.out.size
        have h1 : KpS (fun k => k = Cb ∨ W.heap.size ≤ k) W wc := (HK.out.mono (fun k h => .inl h)).trans (HK1.out.mono (fun k h => h.imp id (fun h9 => by
          rcases HV.out with h8 | ⟨b, h8, h7⟩
          · rw [HSB.out, h8] at h9; cases h9
          · rw [HSB.out, h8] at h9; injection h9 with h9; omega)))
        have h2 : KpS (fun k => k = Cb) W wc := ⟨h1.os, h1.tape, h1.output, h1.size, fun k hk hn => h1.block k hk (fun h9 => by rcases h9 with h9 | h9; exact hn h9; omega)⟩
        exact h2.set (a := ⟨Cb, 3, none⟩) _ (.inl rfl)
      clear HK HK1 HRD HC HLL
      go_wp2
      go_ret
      exact ⟨_, ch1, _, rfl, HC3.out, HR3.out, by rw [hKK]; exact HM1.out, HV.out, HK3.out⟩

end Go.Proofs.Ytpebefcmloablaa
