/- names.anew: those that are alive are set, without the dead. -/
import Derived.Test.YtpebefcmloablaaPutN
import Derived.Test.YtpebefcmloablaaCSet
namespace Go.Proofs.Ytpebefcmloablaa
open Go.RowKit Go.Maps
attribute [local irreducible] wpQuiet
set_option linter.unusedSimpArgs false
set_option linter.unusedVariables false

section
variable {W : World} {base A Cb : Nat} {bv pv lv cv : Value} {bh ch : List Hdr} {al : List Bool} {pl : List Int} {n N wk : Int}

/-- those that are alive, the last bucket first -/
def liveR (al : List Bool) (CB : List (List Ent)) (m : Nat) : List Ent := ((CB.drop m).reverse.flatten).filter (aliveE al)
theorem liveR_end (al : List Bool) (CB : List (List Ent)) : liveR al CB CB.length = [] := by unfold liveR; rw [List.drop_length]; rfl
theorem liveR_step (al : List Bool) (CB : List (List Ent)) (k : Nat) (h : k < CB.length) : liveR al CB k = liveR al CB (k + 1) ++ CB[k].filter (aliveE al) := by
  unfold liveR
  rw [List.drop_eq_getElem_cons h, List.reverse_cons, List.flatten_append, List.filter_append]
  simp
theorem liveR_len (al : List Bool) (CB : List (List Ent)) (m : Nat) : (liveR al CB m).length ≤ CB.flatten.length := by
  unfold liveR
  refine Nat.le_trans (List.length_filter_le _ _) ?_
  rw [((List.reverse_perm (CB.drop m)).flatten).length_eq]
  have e3 : (CB.take m).flatten ++ (CB.drop m).flatten = CB.flatten := by rw [← List.flatten_append, List.take_append_drop]
  have := congrArg List.length e3
  rw [List.length_append] at this
  omega

/-- the buckets so far are those of the carry, put in order -/
def BkUp (bh2 ch2 : List Hdr) : Prop := bh2.length ≤ ch2.length ∧ ∀ (j : Nat) (h : j < bh2.length) (h' : j < ch2.length), bh2[j].2.1.Perm ch2[j].2.1 ∧ bh2[j].2.1.Pairwise (fun x y => x.1 ≤ y.1)
theorem BkUp.step {bh2 ch2 : List Hdr} (h : BkUp bh2 ch2) {hd : Hdr} (hi : bh2.length < ch2.length) (hp : hd.2.1.Perm ch2[bh2.length].2.1) (hs : hd.2.1.Pairwise (fun x y => x.1 ≤ y.1)) : BkUp (bh2 ++ [hd]) ch2 := by
  refine ⟨by simp; omega, fun j h1 h2 => ?_⟩
  by_cases hj : j < bh2.length
  · rw [List.getElem_append_left hj]
    exact h.2 j hj h2
  · have hj2 : j = bh2.length := by simp at h1; omega
    subst hj2
    rw [List.getElem_append_right (by omega)]
    simp only [Nat.sub_self, List.getElem_cons_zero]
    exact ⟨hp, hs⟩
theorem BkUp.done {bh2 ch2 : List Hdr} (h : BkUp bh2 ch2) (hl : bh2.length = ch2.length) : PermB (bh2.map (·.2.1)) (ch2.map (·.2.1)) ∧ ∀ l ∈ bh2.map (·.2.1), l.Pairwise fun p q => p.1 ≤ q.1 := by
  refine ⟨⟨by simpa using hl, fun i h1 h2 => ?_⟩, fun l hm => ?_⟩
  · rw [List.getElem_map, List.getElem_map]
    exact (h.2 i (by simpa using h1) (by simpa using h2)).1
  · obtain ⟨hd, hh, rfl⟩ := List.mem_map.1 hm
    obtain ⟨j, hj, rfl⟩ := List.getElem_of_mem hh
    exact (h.2 j hj (by omega)).2

def AnewP (W : World) (base A Cb : Nat) (bv pv lv cv : Value) (ch : List Hdr) (al : List Bool) (pl : List Int) (n : Int) (e : Ending) (w' : World) : Prop :=
  ∃ (bv' cv' : Value) (bh' ch' : List Hdr) (N' wk' : Int), e = .returned (.tuple #[]) ∧ NmRep w' base A Cb bv' pv lv cv' bh' ch' al pl n N' wk' ∧ NmWF (ch'.map (·.2.1)) (bh'.map (·.2.1)) al pl n N' ∧
    (∀ id p, LiveAt (ch'.map (·.2.1)).flatten al pl id p ↔ LiveAt (ch.map (·.2.1)).flatten al pl id p) ∧ (∀ k, mutS A Cb bv' pv lv cv' k → mutS A Cb bv pv lv cv k ∨ W.heap.size ≤ k) ∧ KpS (mutS A Cb bv pv lv cv) W w'

theorem enters_bucket : ∀ args w, (callFunc 70 args).run Try.prog w = .ok (.enter 70 args) w := enters_of Try.func70 (by kernel_rfl) rfl
theorem enters_sorted : ∀ args w, (callFunc 52 args).run Try.prog w = .ok (.enter 52 args) w := enters_of Try.func52 (by kernel_rfl) rfl

set_option maxRecDepth 100000 in
set_option maxHeartbeats 16000000 in
theorem nm_anew (h : NmRep W base A Cb bv pv lv cv bh ch al pl n N wk) (hbW : base ≤ W.heap.size) (hw : NmW0 (ch.map (·.2.1)) (bh.map (·.2.1)) al pl n N) :
    Calls Try.prog 54 #[.pointer (some ⟨A, 0, none⟩)] W (AnewP W base A Cb bv pv lv cv ch al pl n) := by
  have H := Lib.hid h
  have HW := Lib.hid hw
  have hls := hw.nsz
  have hcl : ch.length ≤ 13 := by have := hw.levels.1; simpa using this
  have HLR : Hid (∀ m, (liveR al (ch.map (·.2.1)) m).length ≤ 5000) := fun m => Nat.le_trans (liveR_len _ _ _) hls.2.2.2
  have CL := Lib.hid (car_levels h.car (by omega))
  have hbd := hw.bound
  obtain ⟨c0, -⟩ := h.cell
  clear h hw hls
  go_enter Try.func54, Try.ntmps54
  go_wp2_with fail
  refine CL.out.mono ?_
  rintro e w2 ⟨rfl, hb2⟩
  have R2 := Lib.hid (H.out.below hb2)
  have hs2 := hb2.size
  have HB2 := Lib.hid hb2
  clear c0 CL hb2
  go_upto_block 0 with fail
  go_cut [2, 3, 5] from 13 to 40 (fun vv iv ev wx => ∃ lw : Value, lw = vv ∧ Hid (wx.ownsRow w2.heap.size 86 2 lw (liveR al (ch.map (·.2.1)) 0).length ((liveR al (ch.map (·.2.1)) 0).flatMap eEnt)) ∧ Hid (Below w2.heap.size w2 wx))
  case first =>
    go_wp2_with fail
    go_loopw [3, 2] (fun iv vv wr => ∃ (m : Nat) (lw : Value), iv = .int .i64 ((m : Int) - 1) ∧ lw = vv ∧ m ≤ ch.length ∧ Hid (wr.ownsRow w2.heap.size 86 2 lw (liveR al (ch.map (·.2.1)) m).length ((liveR al (ch.map (·.2.1)) m).flatMap eEnt)) ∧ Below w2.heap.size w2 wr) (fun iv _ _ => (intOf iv + 1).toNat)
    case atStart => exact ⟨ch.length, _, by go_num, rfl, Nat.le_refl _, by have := liveR_end al (ch.map (·.2.1)); rw [List.length_map] at this; rw [this]; exact World.ownsRow_nil _ _ _ _, Below.refl _ _⟩
    case round =>
      obtain ⟨m, lw, rfl, rfl, hm, HO, hb⟩ := hrel
      rcases Nat.eq_zero_or_pos m with hm0 | hm0
      · subst hm0
        have hg0 : ¬ (0 : Int) ≤ ((0 : Nat) : Int) - 1 := by omega
        have HB := Lib.hid hb
        go_wp2_with fail
        go_meet
        exact ⟨_, rfl, HO, HB⟩
      · obtain ⟨k, rfl⟩ : ∃ k, m = k + 1 := ⟨m - 1, by omega⟩
        have hki : (((k + 1 : Nat) : Int) - 1) = (k : Int) := by omega
        rw [hki]
        have hki0 : (0 : Int) ≤ (k : Int) := by omega
        have hkc : k < (ch.map (·.2.1)).length := by rw [List.length_map]; omega
        have HST := Lib.hid (liveR_step al (ch.map (·.2.1)) k hkc)
        have Rr := Lib.hid (R2.out.below hb)
        obtain ⟨c0, -⟩ := Rr.out.cell
        have hkl : k < ch.length := by omega
        have hzl : ch[k].2.1.length ≤ 5000 := by
          have := HW.out.nsz.2.2.2
          have h2 := mem_len_le (l := ch[k].2.1) (CB := ch.map (·.2.1)) (List.mem_map.2 ⟨_, List.getElem_mem hkl, rfl⟩)
          omega
        have HNI : Hid (∀ x ∈ ch[k].2.1, ∃ k : Nat, x.2 = (k : Int) ∧ k < al.length) := fun x hx => HW.out.nums x (List.mem_flatten.2 ⟨_, List.mem_map.2 ⟨_, List.getElem_mem hkl, rfl⟩, hx⟩)
        have CB := Lib.hid (car_bucket Rr.out.car Rr.out.cE (by omega) k hkl (by omega))
        have HST2 : Hid (liveR al (ch.map (·.2.1)) k = liveR al (ch.map (·.2.1)) (k + 1) ++ ch[k].2.1.filter (aliveE al)) := by
          have := HST.out
          rw [List.getElem_map] at this
          exact this
        clear HST
        generalize ch[k].2.1 = lk at *
        have hlr := HLR.out (k + 1)
        have HLk := Lib.hid (HLR.out k)
        generalize liveR al (ch.map (·.2.1)) (k + 1) = L at *
        obtain ⟨wo, ewo⟩ : ∃ wo : World, wo = wr := ⟨_, rfl⟩
        subst ewo
        have HB := Lib.hid hb
        have hs3 := hb.size
        clear hb
        go_wp2_with fail
        refine CB.out.mono ?_
        rintro e w3 ⟨v9, rfl, hown9, hb3⟩
        have hs4 := hb3.size
        have HB3 : Hid (Below w2.heap.size w2 w3) := HB.out.trans (hb3.mono hs3)
        have HO3 := Lib.hid (ownsRow_below HO.out hb3)
        have HSEP : Hid (∀ gb, v9.ownBlock = some gb → lw.ownBlock ≠ some gb) := fun gb e e2 => by
          have h1 := (hown9.lt gb e).1
          have h2 := (HO.out.lt gb e2).2
          omega
        have HO9 := Lib.hid hown9
        obtain ⟨a9, c9, e9, -, -, -⟩ := RdE.of_owns hown9
        subst e9
        clear hown9 hb3 c0
        have hlk9 : lk.length ≤ 9223372036854775807 := by omega
        have hbw9 : w2.heap.size ≤ w3.heap.size := by omega
        clear CB
        go_wp2_with fail
        go_loopw [24, 2] (fun jv vv wr => ∃ (j : Nat) (lx : Value), jv = .int .i64 j ∧ lx = vv ∧ j ≤ lk.length ∧ Hid (wr.ownsRow w2.heap.size 86 2 lx (L ++ (lk.take j).filter (aliveE al)).length ((L ++ (lk.take j).filter (aliveE al)).flatMap eEnt)) ∧ Hid (wr.ownsRow wo.heap.size 86 2 (.slice a9 lk.length c9) lk.length (lk.flatMap eEnt)) ∧ Hid (∀ gb, Value.ownBlock (.slice a9 lk.length c9) = some gb → lx.ownBlock ≠ some gb) ∧ Below w2.heap.size w2 wr) (fun jv _ _ => lk.length - (intOf jv).toNat)
        case atStart => exact ⟨0, _, rfl, rfl, Nat.zero_le _, by rw [List.take_zero, List.filter_nil, List.append_nil]; exact HO3, HO9, HSEP, HB3.out⟩
        case round =>
          obtain ⟨j, lx, rfl, rfl, hj, HO4, HO94, HSEP4, hb4⟩ := hrel
          have hs9 := hb4.size
          by_cases hjl : j < lk.length
          · obtain ⟨a8, c8, e8, -, -, hre⟩ := RdE.of_owns HO94.out
            injection e8 with e8 _ e9
            subst e8 e9
            obtain ⟨b9, off9, ea9, hbl9, hcs9⟩ := hre.rdk.get (by omega)
            have x0 := hcs9 j hjl 0 (by omega)
            have x1 := hcs9 j hjl 1 (by omega)
            simp only [eEnt, List.getElem?_cons_zero, List.getElem?_cons_succ, Nat.add_zero] at x0 x1
            obtain ⟨q, hq, hql⟩ := HNI.out lk[j] (List.getElem_mem hjl)
            have R4 := R2.out.below hb4
            obtain ⟨la, lc, elv, -, -, hra⟩ := Rd.of_owns R4.arow
            obtain ⟨lb, lo, ela, hlb, hlc⟩ := hra.get (by omega)
            have za := hlc q hql
            obtain ⟨-, -, -, zc, -⟩ := R4.cell
            have HTJ : Hid (L ++ (lk.take (j + 1)).filter (aliveE al) = (L ++ (lk.take j).filter (aliveE al)) ++ (if al[q] = true then [lk[j]] else [])) := by
              show _ = _
              rw [List.take_succ_eq_append_getElem hjl, List.filter_append, ← List.append_assoc]
              congr 1
              unfold aliveE
              rw [List.filter_cons, hq]
              simp only [Int.toNat_natCast, List.getElem?_eq_getElem hql]
              cases al[q] <;> simp
            have hjt : (L ++ (lk.take j).filter (aliveE al)).length ≤ 5000 + 5000 := by
              rw [List.length_append]
              have h1 := List.length_filter_le (aliveE al) (lk.take j)
              have h2 : (lk.take j).length ≤ lk.length := by rw [List.length_take]; omega
              omega
            have hxp : (lk[j]).2 = (q : Int) := hq
            rw [hq] at x1
            have EA9 := Lib.hid ea9
            have ELA := Lib.hid ela
            have ELV := Lib.hid elv
            have HXP := Lib.hid hxp
            have HSZ : Hid (lk.length = lk.length) := Lib.hid rfl
            clear hcs9 ea9 hlc ela elv hq hxp hra hre R4
            generalize hL1 : L ++ (lk.take j).filter (aliveE al) = L1 at *
            generalize hbb : al[q] = bb at *
            generalize lk[j] = x at *
            obtain ⟨xi, xk⟩ := x
            simp only at x0 x1 HTJ HXP
            obtain rfl := HXP.out
            obtain rfl := EA9.out
            obtain rfl := ELA.out
            obtain rfl := ELV.out
            clear EA9 ELA ELV HXP hbb hL1
            have hjl2 : (j : Int) < (lk.length : Int) := by omega
            have hql2 : (q : Int) < (al.length : Int) := by omega
            have BA : Below wr.heap.size wr (wr.alloc (.cells #[.int .u32 xi, .int .i64 (q : Int)] 86)) := (Below.refl _ _).alloc (Nat.le_refl _) _
            have r0 : (wr.alloc (.cells #[.int .u32 xi, .int .i64 (q : Int)] 86)).cell? ⟨wr.heap.size, 0, none⟩ = some (.int .u32 xi) := by rw [World.cell?_alloc_at _ _ _ _ rfl]; rfl
            have r1 : (wr.alloc (.cells #[.int .u32 xi, .int .i64 (q : Int)] 86)).cell? ⟨wr.heap.size, 1, none⟩ = some (.int .i64 (q : Int)) := by rw [World.cell?_alloc_at _ _ _ _ rfl]; rfl
            have za2 := (BA.cell (p := ⟨lb, lo + q, none⟩) (World.block_lt_of_cell? wr _ za)).trans za
            have zc2 := (BA.cell (p := ⟨A, 3, none⟩) (World.block_lt_of_cell? wr _ zc)).trans zc
            have HOA := Lib.hid ((HO4.out.alloc (.cells #[.int .u32 xi, .int .i64 (q : Int)] 86)).drewAny 1)
            have HO9A := Lib.hid ((HO94.out.alloc (.cells #[.int .u32 xi, .int .i64 (q : Int)] 86)).drewAny 1)
            have HBA := Lib.hid ((hb4.alloc hs9 (.cells #[.int .u32 xi, .int .i64 (q : Int)] 86)).drew)
            cases bb
            · rw [if_neg (by decide), List.append_nil] at HTJ
              clear BA
              go_wp2
              go_region
              all_goals
                go_wp2
                go_roundw
                case rel => exact ⟨j + 1, _, by go_num, rfl, by omega, by rw [HTJ.out]; exact HOA, HO9A, HSEP4, HBA.out⟩
                case measure => simp [intOf]; omega
            · rw [if_pos rfl] at HTJ
              clear BA
              go_wp2
              go_region
              have r0d : ((wr.alloc (.cells #[.int .u32 xi, .int .i64 (q : Int)] 86)).drew).cell? ⟨wr.heap.size, 0, none⟩ = some (.int .u32 xi) := r0
              have r1d : ((wr.alloc (.cells #[.int .u32 xi, .int .i64 (q : Int)] 86)).drew).cell? ⟨wr.heap.size, 1, none⟩ = some (.int .i64 (q : Int)) := r1
              go_wp2_with (at_builtin; refine wp_append1B elEnt w2.heap.size HOA.out [.int .u32 xi, .int .i64 q] rfl (by simp [Value.oneCell']) rfl _ _ rfl rfl _ (by show Value.slice (some ⟨wr.heap.size + 1, 0, none⟩) 1 1 = _; simp) (by unfold maxLen; omega) (by omega) (by simp; omega) ?_; intro v' w6 hown' hg hblk)
              have b6 : Below w2.heap.size w2 w6 := HBA.out.grown hg (by simp; omega) (fun b e => (HOA.out.lt b e).1)
              have HO96 : Hid (w6.ownsRow wo.heap.size 86 2 (.slice (some ⟨b9, off9, none⟩) lk.length c9) lk.length (lk.flatMap eEnt)) := by
                refine HO9A.out.kept hg ?_
                rcases Option.eq_none_or_eq_some (Value.ownBlock (.slice (some ⟨b9, off9, none⟩) lk.length c9)) with h9 | ⟨gb, h9⟩
                · exact .inl h9
                · exact .inr (fun e => HSEP4.out gb h9 (e.symm.trans h9))
              have HSEP6 : Hid (∀ gb, Value.ownBlock (.slice (some ⟨b9, off9, none⟩) lk.length c9) = some gb → v'.ownBlock ≠ some gb) := fun gb e e2 => by
                have h1 := (HO94.out.lt gb e).2
                rcases blkOf_alloc hblk with h9 | ⟨b, h9, h8⟩
                · exact HSEP4.out gb e (h9.symm.trans e2)
                · rw [h9] at e2
                  injection e2 with e2
                  simp at h8
                  omega
              go_roundw
              case rel => exact ⟨j + 1, _, by go_num, rfl, by omega, by rw [HTJ.out, List.length_append, List.flatMap_append]; exact hown', HO96, HSEP6, b6⟩
              case measure => simp [intOf]; omega
          · obtain rfl : j = lk.length := by omega
            rw [List.take_length, ← HST2.out] at HO4
            go_wp2
            go_roundw
            case rel => exact ⟨k, _, by go_num, rfl, by omega, HO4, hb4⟩
            case measure => simp [intOf]
  case rest =>
    obtain ⟨lw, rfl, HL, HBL⟩ := hcut
    obtain ⟨w3, ew3⟩ : ∃ w3 : World, w3 = wc := ⟨_, rfl⟩
    subst ew3
    have R3 := Lib.hid (R2.out.below HBL.out)
    have HB3 := Lib.hid (HB2.out.trans (HBL.out.mono hs2))
    have hl0 := HLR.out 0
    obtain ⟨a3, c3, e3, -, hc3, hre3⟩ := RdE.of_owns HL.out
    subst e3
    have CS := Lib.hid (car_set R3.out.car (by have := HB3.out.size; omega) a3 (liveR al (ch.map (·.2.1)) 0) c3 hre3 hc3 (by omega))
    obtain ⟨k0, -⟩ := R3.out.cell
    have HLE : Hid (liveR al (ch.map (·.2.1)) 0 = ((ch.map (·.2.1)).reverse.flatten).filter (aliveE al)) := Lib.hid (by unfold liveR; rw [List.drop_zero])
    generalize liveR al (ch.map (·.2.1)) 0 = L at *
    clear hre3 hc3 HBL HLR HL
    go_wp2_with fail
    refine CS.out.mono ?_
    rintro e w4 ⟨cv4, ch4, wk4, rfl, hcar4, hrows4, hmap4, hcv4, hK4⟩
    have HC4 := Lib.hid (R3.out.core.add (hK4.mono (fun k h => .inl h)) hcar4 (.inr hcv4))
    have HR4 := Lib.hid hrows4
    have HM4 := Lib.hid hmap4
    have HV4 := Lib.hid hcv4
    have HK4 := Lib.hid hK4
    have hK13 : ch4.length ≤ 14 := by
      have h1 := congrArg List.length hmap4
      rw [setC_len, List.length_map] at h1
      have h2 := bitLen_mono (a := L.length) (b := 5000) (by omega) (by decide)
      have h3 : Lib.bitLen 5000 ≤ 14 := by decide
      omega
    have HZ4 : Hid (∀ h ∈ ch4, h.2.1.length ≤ 5000) := fun h hh => by
      have h1 := mem_len_le (l := h.2.1) (CB := ch4.map (·.2.1)) (List.mem_map.2 ⟨_, hh, rfl⟩)
      rw [hmap4] at h1
      have h2 : L.length < 2 ^ Lib.bitLen L.length := by
        by_cases h0 : L.length = 0
        · rw [h0]; decide
        · exact (bitLen_pos_bounds _ (by omega) h0).2.2
      rw [(setC_perm _ L h2).length_eq] at h1
      omega
    obtain ⟨-, q1, -⟩ := HC4.out.cell
    have f1 := HC4.out.frozen 1
    clear hcar4 hrows4 hmap4 hcv4 hK4 k0 CS
    have HC5 : Hid (NmCore (w4.setCell ⟨A, 1, none⟩ (.slice none 0 0)) base A Cb (.slice none 0 0) pv lv cv4 [] ch4 al pl n L.length wk4) := HC4.out.bucks (bh' := []) (below_asGrown (Below.refl _ _) |> fun h => ⟨h.os, h.tape, h.output, h.size, fun k hk _ => rfl⟩) (World.ownsRow_nil _ _ _ _) (.inr (.inl rfl))
    have HK5 : Hid (KpS (fun k => k = A) w4 (w4.setCell ⟨A, 1, none⟩ (.slice none 0 0))) := (KpS.refl (fun k => k = A) w4).set (a := ⟨A, 1, none⟩) _ (.inl rfl)
    have CL := Lib.hid (car_levels HC5.out.car (by omega))
    obtain ⟨r0, -⟩ := HC5.out.cell
    go_wp2_with fail
    generalize w4.setCell ⟨A, 1, none⟩ (.slice none 0 0) = w5 at *
    refine CL.out.mono ?_
    rintro e w6 ⟨rfl, hb6⟩
    have HC6 := Lib.hid (HC5.out.below hb6)
    have HK6 : Hid (KpS (fun k => k = A) w4 w6) := HK5.out.below hb6
    clear r0 q1 f1 CL hb6 HC5 HK5
    go_wp2_with fail
    go_loopw [55] (fun iv wr => ∃ (bv2 : Value) (bh2 : List Hdr), iv = .int .i64 bh2.length ∧ Hid (NmCore wr base A Cb bv2 pv lv cv4 bh2 ch4 al pl n L.length wk4) ∧ Hid (BkUp bh2 ch4) ∧ Hid (RowsE wr bh2) ∧ Hid (bv2.ownBlock = none ∨ ∃ b, bv2.ownBlock = some b ∧ w4.heap.size ≤ b) ∧ Hid (KpS (fun k => k = A) w4 wr)) (fun iv _ => ch4.length - (intOf iv).toNat)
    case atStart => exact ⟨.slice none 0 0, [], rfl, HC6, ⟨Nat.zero_le _, fun j h => absurd h (Nat.not_lt_zero _)⟩, (fun h hh => absurd hh List.not_mem_nil), .inl rfl, HK6⟩
    case round =>
      obtain ⟨bv2, bh2, rfl, HC, HU, HR, HV, HK⟩ := hrel
      by_cases hlt : bh2.length < ch4.length
      · have HRC : Hid (RowsE wr ch4) := HR4.out.kept fun b cur fr hb => HC4.out.entKept (T := fun _ => False) (HK.out.mono fun k h => .inl (.inl h)) b cur fr hb (fun h => h)
        have CBK := Lib.hid (car_bucket (W := wr.drew) (HC.out.below (Below.refl _ _).drew).car (HRC.out.kept fun b cur fr hb => rfl) (by omega) bh2.length hlt (Nat.le_trans (HZ4.out _ (List.getElem_mem hlt)) (by decide)))
        have HSTP : Hid (∀ hd : Hdr, hd.2.1.Perm ch4[bh2.length].2.1 → hd.2.1.Pairwise (fun x y => x.1 ≤ y.1) → BkUp (bh2 ++ [hd]) ch4) := fun hd h1 h2 => HU.out.step hlt h1 h2
        have hz := HZ4.out _ (List.getElem_mem hlt)
        generalize ch4[bh2.length].2.1 = lb at *
        obtain ⟨k0, k1, -⟩ := HC.out.cell
        have kf : ∀ o, wr.frozen? ⟨A, o, none⟩ = false := HC.out.frozen
        have hAr := HC.out.lt
        have hlt2 : (bh2.length : Int) < (ch4.length : Int) := by omega
        have hw34 := HK.out.size
        have hW4 : W.heap.size ≤ w4.heap.size := Nat.le_trans HB3.out.size HK4.out.size
        have hneB : Hid (bv2.ownBlock ≠ some A) := fun e => row_ne HC.out.brow HC.out.blk (by decide) _ e rfl
        go_wp2_with fail
        go_region_law (first
          | (refine step_call (vals := #[.pointer (some ⟨Cb, 0, none⟩), .int .i64 bh2.length]) enters_bucket rfl _ _ rfl rfl CBK.out ?_
             rintro e w7 ⟨v7, rfl, hown7, hb7⟩
             refine ⟨_, rfl, ?_⟩
             have hsz7 := hb7.size
             have hAr7 : A < w7.heap.size := (by (have h9 : wr.heap.size ≤ w7.heap.size := hsz7); omega)
             obtain ⟨qb1, qb2⟩ := cellK ((KpS.refl (fun _ => False) wr.drew).below hb7) (b := A) hAr (fun h => h))
          | (refine step_call (vals := #[v7]) enters_sorted rfl _ _ rfl rfl (sorted_grown (w := w7) (base := wr.heap.size) rfl (by omega) hown7 hsz7) ?_
             rintro e w8 ⟨rfl, l', hp8, hs8, ho8, hg8⟩
             refine ⟨_, rfl, ?_⟩
             have HP8 := Lib.hid hp8
             have HS8 := Lib.hid hs8
             have K8 : KpS (fun _ => False) wr w8 := KpS.strip (((KpS.refl _ wr).drew.below hb7).grown hg8 (fun k hk => .inl (.inr (hown7.lt k hk).1)))
             have HK8 := Lib.hid K8
             obtain ⟨qs1, qs2⟩ := cellK K8 (b := A) hAr (fun h => h)
             have hs98 := K8.size
             have hAr8 : A < w8.heap.size := (by omega)
             obtain ⟨a7, c7, e7, -, hc7, hre7⟩ := RdE.of_owns ho8
             have HC7 := Lib.hid hc7
             have HRE7 := Lib.hid hre7
             subst e7
             clear hp8 hs8 K8 ho8 hc7 hre7)
          | (refine step_append1E elHdr base (rowK (S := fun _ => False) HC.out.brow (HK8.out.alloc _) (fun _ _ h => h)) [.slice a7 l'.length c7] rfl (by simp [Value.oneCell']) rfl (.tmp 62) (.tmp 70) rfl rfl _ rfl (by first | exact lit0 _ _ | exact lit0d _ _) (by unfold maxLen; omega) (by omega) (by simp; omega) ?_
             intro g9 cap9 w9 hown9 hg9 hblk9 hlt9
             have HOWN9 := Lib.hid hown9
             have HBLK9 := Lib.hid hblk9
             obtain ⟨qa1, qa2⟩ := cellK ((KpS.refl (fun k => bv2.ownBlock = some k) _).grown hg9 (fun k hk => .inl hk)) (b := A) (by first | (simp; done) | (simp; omega)) (fun e => hneB.out e)
             clear hown9 hblk9))
        all_goals
          have hcore8 := HC.out.below (HK8.out.toBelow (Nat.le_refl _) (fun k h => h.elim))
          have hcore8a := hcore8.below ((Below.refl _ _).alloc (Nat.le_refl _) (.cells #[.slice a7 l'.length c7] 89))
          have hown2 : w9.ownsRow base 89 1 (.slice (some ⟨g9, 0, none⟩) (bh2.length + 1) cap9) (bh2 ++ [(a7, l', c7)]).length ((bh2 ++ [(a7, l', c7)]).map eHdr) := by
            rw [List.length_append, List.map_append]
            exact HOWN9.out
          have hb9 : Value.ownBlock (.slice (some ⟨g9, 0, none⟩) (bh2.length + 1) cap9) = bv2.ownBlock ∨ (w8.alloc (.cells #[.slice a7 l'.length c7] 89)).heap.size ≤ g9 := by
            rcases HBLK9.out with h9 | h9
            · exact .inl h9.symm
            · exact .inr (by rw [h9]; first | exact Nat.le_refl _ | simp)
          have HCN := Lib.hid (hcore8a.bucks hg9 hown2 (hb9.imp (fun h => h) (fun h => .inr ⟨g9, rfl, h⟩)))
          have HB9 := Lib.hid hb9
          have K89 : KpS (fun k => k = A ∨ bv2.ownBlock = some k) w8 (w9.setCell ⟨A, 1, none⟩ (.slice (some ⟨g9, 0, none⟩) (bh2.length + 1) cap9)) := (((KpS.refl _ w8).alloc _).grown hg9 (fun k hk => .inl (.inr hk))).set (a := ⟨A, 1, none⟩) _ (.inl (.inl rfl))
          have HK89 := Lib.hid K89
          clear hcore8 hcore8a hown2 hb9 K89
          go_wp2
          go_roundw
          case rel =>
            have hcore8 := HC.out.below (HK8.out.toBelow (Nat.le_refl _) (fun k h => h.elim))
            have hw8 := HK8.out.size
            have KR : KpS (fun k => k = A ∨ bv2.ownBlock = some k) wr (w9.setCell ⟨A, 1, none⟩ (.slice (some ⟨g9, 0, none⟩) (bh2.length + 1) cap9)) := (HK8.out.mono (fun k h => h.elim)).trans HK89.out
            refine ⟨_, bh2 ++ [(a7, l', c7)], by simp, HCN.out, HSTP.out (a7, l', c7) HP8.out HS8.out, ?_, ?_, ?_⟩
            · intro h hh
              rcases List.mem_append.1 hh with h1 | h1
              · exact ⟨(HR.out h h1).1.kept fun b cur fr hb => HC.out.entKept (T := fun _ => False) (KR.mono fun k h => .inl (h.imp id (fun h => .inr (.inl h)))) b cur fr hb (fun h => h), (HR.out h h1).2⟩
              · obtain rfl : h = (a7, l', c7) := by simpa using h1
                exact ⟨HRE7.out.kept fun b cur fr hb => hcore8.entKept (T := fun _ => False) (HK89.out.mono fun k h => .inl (h.imp id (fun h => .inr (.inl h)))) b cur fr hb (fun h => h), HC7.out⟩
            · rcases HB9.out with h9 | h9
              · rw [h9]; exact HV.out
              · exact .inr ⟨g9, rfl, by simp at h9; omega⟩
            · refine KpS.strip ((HK.out.mono (fun k h => .inl h)).trans (KR.mono (fun k h => ?_)))
              rcases h with h | h
              · exact .inl h
              · rcases HV.out with h9 | ⟨b, h9, h8⟩
                · rw [h9] at h; cases h
                · rw [h9] at h
                  injection h with h
                  exact .inr (by omega)
          case measure => simp [intOf]; omega
      · have hfin : bh2.length = ch4.length := by have := HU.out.1; omega
        have hd : decide ((bh2.length : Int) < (ch4.length : Int)) = false := by simp; omega
        have hge : ¬ (bh2.length : Int) < (ch4.length : Int) := by omega
        have HF := Lib.hid hfin
        clear hfin
        go_wp2
        go_end0
        have hRC : RowsE wr ch4 := HR4.out.kept fun b cur fr hb => HC4.out.entKept (T := fun _ => False) (HK.out.mono fun k h => .inl (.inl h)) b cur fr hb (fun h => h)
        obtain ⟨hp, hs⟩ := HU.out.done HF.out
        have hwf := wf_anew HW.out (NB' := bh2.map (·.2.1)) (by rw [← HLE.out, ← HM4.out]; exact hp) hs
        rw [← HLE.out, ← HM4.out] at hwf
        have hs3 := HB3.out.size
        have hs4 := HK4.out.size
        refine ⟨bv2, cv4, bh2, ch4, _, wk4, rfl, HC.out.rep HR.out hRC, hwf.1, hwf.2, ?_, ?_⟩
        · rintro k (h | h | h | h | h | h)
          · exact .inl (.inl h)
          · exact .inl (.inr (.inl h))
          · rcases HV.out with h9 | ⟨b, h9, h8⟩
            · rw [h9] at h; cases h
            · rw [h9] at h
              injection h with h
              exact .inr (by omega)
          · exact .inl (.inr (.inr (.inr (.inl h))))
          · exact .inl (.inr (.inr (.inr (.inr (.inl h)))))
          · rcases HV4.out with h9 | ⟨b, h9, h8⟩
            · rw [h9] at h; cases h
            · rw [h9] at h
              injection h with h
              exact .inr (by omega)
        · exact (((KpS.refl (mutS A Cb bv pv lv cv) W).below HB3.out).trans (HK4.out.mono (fun k h => .inr (.inl h)))).trans (HK.out.mono (fun k h => .inl h))
end

end Go.Proofs.Ytpebefcmloablaa
