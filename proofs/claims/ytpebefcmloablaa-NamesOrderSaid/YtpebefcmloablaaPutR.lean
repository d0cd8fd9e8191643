/- names.Put at a new name. -/
import Derived.Test.YtpebefcmloablaaPutN
namespace Go.Proofs.Ytpebefcmloablaa
open Go.RowKit Go.Maps
attribute [local irreducible] wpQuiet
set_option linter.unusedSimpArgs false
set_option linter.unusedVariables false

section
variable {W : World} {base A Cb : Nat} {bv pv lv cv : Value} {bh ch : List Hdr} {al : List Bool} {pl : List Int} {n N wk : Int}

def PutNewP (W : World) (base A Cb : Nat) (bv pv lv cv : Value) (bh ch : List Hdr) (al : List Bool) (pl : List Int) (n N id p : Int) (e : Ending) (w' : World) : Prop :=
  ∃ (bv' pv' lv' cv' : Value) (bh' ch' : List Hdr) (wk' : Int), e = .returned (.int .i64 0) ∧ NmRep w' base A Cb bv' pv' lv' cv' bh' ch' (al ++ [true]) (pl ++ [p]) (n + 1) (N + 1) wk' ∧ NmWF (ch'.map (·.2.1)) (bh'.map (·.2.1)) (al ++ [true]) (pl ++ [p]) (n + 1) (N + 1) ∧
    (ch'.map (·.2.1)).flatten.Perm ((id, (al.length : Int)) :: (ch.map (·.2.1)).flatten) ∧ (∀ k, mutS A Cb bv' pv' lv' cv' k → mutS A Cb bv pv lv cv k ∨ W.heap.size ≤ k) ∧ KpS (mutS A Cb bv pv lv cv) W w'

set_option maxRecDepth 100000 in
set_option maxHeartbeats 16000000 in
theorem nm_Put_new (h : NmRep W base A Cb bv pv lv cv bh ch al pl n N wk) (hbW : base ≤ W.heap.size) (hw : NmWF (ch.map (·.2.1)) (bh.map (·.2.1)) al pl n N) (hsmall : al.length < 5000) (id p : Int) (hno : ∀ x ∈ (ch.map (·.2.1)).flatten, x.1 ≠ id) :
    Calls Try.prog 30 #[.pointer (some ⟨A, 0, none⟩), .int .u32 id, .int .i64 p] W (PutNewP W base A Cb bv pv lv cv bh ch al pl n N id p) := by
  have CN := Lib.hid (nm_is h)
  have H := Lib.hid h
  have hlv := hw.nsz
  have HF := Lib.hid (fun W' (hb : Below W.heap.size W W') => nm_find0 A id W' _ bh bv base ((h.below hb).cell.2.1) (h.below hb).brow rfl (h.below hb).bE hw.sorted (by have := hlv.1; simp at this; omega) (fun l hl => by have := hlv.2.2.1 l hl; omega))
  have hn0 : 0 ≤ n ∧ n ≤ 5000 := by
    have h1 := hw.cnt
    have h2 : al.count true ≤ al.length := List.count_le_length
    have h3 := hw.bound
    omega
  have HW := Lib.hid hw
  clear h hw
  go_enter Try.func30, Try.ntmps30
  go_wp2_with fail
  refine CN.out.mono ?_
  rintro e w2 ⟨rfl, hb2⟩
  go_wp2_with fail
  refine (HF.out w2 hb2).mono ?_
  rintro e w3 ⟨k, t, rfl, ht, hk, hb3⟩
  have B3 := hb2.trans (hb3.mono hb2.size)
  have R3 := Lib.hid (H.out.below B3)
  obtain ⟨c0, c1, c2, c3, c4⟩ := R3.out.cell
  have hkm : k = -1 := by
    rcases hk with ⟨y, hy, h1, h2⟩ | ⟨rfl, -⟩
    · rw [forall2_mem HW.out.perm] at hy
      exact absurd h1 (hno _ hy)
    · rfl
  subst hkm
  have f4 := R3.out.frozen 4
  have hn1 : (-9223372036854775808 : Int) ≤ n + 1 ∧ n + 1 ≤ 9223372036854775807 := by omega
  have S4 := R3.out.setn (n + 1)
  have hbd := HW.out.bound
  have HLP := Lib.hid HW.out.len
  have hplb : pl.length < 5000 := by have := HLP.out; omega
  have S5 := Lib.hid (S4.below ((Below.refl _ _).alloc (Nat.le_refl _) (.cells #[.int .u32 id, .int .i64 (al.length : Int)] 86)))
  have K5 : Hid (KpS (fun k => k = A) W ((w3.setCell ⟨A, 4, none⟩ (.int .i64 (n + 1))).alloc (.cells #[.int .u32 id, .int .i64 (al.length : Int)] 86))) := ((((KpS.refl (fun k => k = A) W).below B3).set (a := ⟨A, 4, none⟩) _ (.inl rfl)).alloc _)
  have x0 : ((w3.setCell ⟨A, 4, none⟩ (.int .i64 (n + 1))).alloc (.cells #[.int .u32 id, .int .i64 (al.length : Int)] 86)).cell? ⟨w3.heap.size, 0, none⟩ = some (.int .u32 id) := by rw [World.cell?_alloc_at _ _ _ _ (by simp)]; rfl
  have x1 : ((w3.setCell ⟨A, 4, none⟩ (.int .i64 (n + 1))).alloc (.cells #[.int .u32 id, .int .i64 (al.length : Int)] 86)).cell? ⟨w3.heap.size, 1, none⟩ = some (.int .i64 (al.length : Int)) := by rw [World.cell?_alloc_at _ _ _ _ (by simp)]; rfl
  have hs5 : w3.heap.size < ((w3.setCell ⟨A, 4, none⟩ (.int .i64 (n + 1))).alloc (.cells #[.int .u32 id, .int .i64 (al.length : Int)] 86)).heap.size := by simp
  have hW3 : W.heap.size ≤ w3.heap.size := B3.size
  have X0 := Lib.hid x0
  have X1 := Lib.hid x1
  obtain ⟨d0, d1, d2, d3, d4⟩ := S4.cell
  obtain ⟨lav, lac, hlv2, -, -, -⟩ := Rd.of_owns S4.arow
  subst hlv2
  clear hk HF CN S4 x0 x1
  go_upto_region 11 with fail
  generalize ((w3.setCell ⟨A, 4, none⟩ (.int .i64 (n + 1))).alloc (.cells #[.int .u32 id, .int .i64 (al.length : Int)] 86)) = w5 at *
  clear c0 c1 c2 c3 c4 f4 d0 d1 d2 d3 d4
  generalize Value.slice lav al.length lac = lvv at *
  go_cut [] from 61 to 79 (fun wx => ∃ pv' lv', Hid (NmRep wx base A Cb bv pv' lv' cv bh ch (al ++ [true]) (pl ++ [p]) (n + 1) N wk) ∧ Hid (pv'.ownBlock = pv.ownBlock ∨ ∃ b, pv'.ownBlock = some b ∧ W.heap.size ≤ b) ∧ Hid (lv'.ownBlock = lvv.ownBlock ∨ ∃ b, lv'.ownBlock = some b ∧ W.heap.size ≤ b) ∧ Hid (KpS (fun k => k = A ∨ pv.ownBlock = some k ∨ lvv.ownBlock = some k) w5 wx))
  case first =>
    obtain ⟨-, q1, q2, q3, -⟩ := S5.out.cell
    have fA : ∀ j, w5.frozen? ⟨A, j, none⟩ = false := S5.out.frozen
    have hA5 := S5.out.lt
    have hCA := H.out.lt
    have hpA : ∀ gb, pv.ownBlock = some gb → gb < w5.heap.size ∧ gb ≠ A := fun gb e => ⟨(S5.out.prow.lt gb e).2, fun e9 => row_ne S5.out.prow S5.out.blk (by decide) gb e e9.symm⟩
    have hlA : ∀ gb, lvv.ownBlock = some gb → gb < w5.heap.size ∧ gb ≠ A := fun gb e => ⟨(S5.out.arow.lt gb e).2, fun e9 => row_ne S5.out.arow S5.out.blk (by decide) gb e e9.symm⟩
    have hpl : ∀ gb, pv.ownBlock = some gb → lvv.ownBlock ≠ some gb := fun gb e e2 => by
      rcases S5.out.arow.2 with ⟨rfl, _⟩ | ⟨g, cap, cur, rfl, _, hh, _⟩
      · cases e2
      · simp only [Value.ownBlock, Option.some.injEq] at e2
        subst e2
        exact row_ne S5.out.prow hh (by decide) _ e rfl
    have HPA := Lib.hid hpA
    have HLA := Lib.hid hlA
    have HPL := Lib.hid hpl
    have hbase5 : base ≤ w5.heap.size := by have := K5.out.size; omega
    clear hpA hlA hpl
    have h0 := S5.out.blk
    go_region_law (first
      | (refine step_append1E elBool base (rowK (S := fun _ => False) S5.out.arow (by repeat (first | exact KpS.refl _ _ | refine KpS.drew ?_ | refine KpS.alloc ?_ _)) (fun _ _ h => h)) [.bool true] rfl (by simp [Value.oneCell']) rfl (.tmp 66) (.tmp 67) rfl rfl _ rfl (by first | exact lit0d _ _ | exact lit1d _ _ _ | exact lit2d _ _ _) (by unfold maxLen; omega) (by omega) (by first | (simp; done) | (simp; omega)) ?_
         intro ga capa wa hAown hAg hAblk hAlt
         obtain ⟨qa1, qa2⟩ := cellK ((KpS.refl (fun k => lvv.ownBlock = some k) _).grown hAg (fun k hk => .inl hk)) (b := A) (by first | (simp; done) | (simp; omega)) (fun e => (HLA.out _ e).2 rfl)
         have hAwa : A < wa.heap.size := by (have := hAg.size; simp at this; omega)
         have HGA : Hid (ga ≠ A ∧ pv.ownBlock ≠ some ga ∧ (lvv.ownBlock = some ga ∨ W.heap.size ≤ ga)) := (by
           rcases hAblk with h9 | h9
           · exact ⟨(HLA.out _ h9).2, fun e => HPL.out _ e h9, .inl h9⟩
           · simp at h9
             exact ⟨by omega, fun e => by (have := (HPA.out _ e).1; omega), .inr (by omega)⟩)
         clear hAblk)
      | (refine step_append1E elInt base (rowK (S := fun k => lvv.ownBlock = some k) S5.out.prow (by repeat (first | exact KpS.refl _ _ | refine KpS.drew ?_ | refine KpS.alloc ?_ _ | refine KpS.grown ?_ hAg (fun k hk => .inl hk))) (fun gb e e2 => HPL.out gb e e2)) [.int .i64 p] rfl (by simp [Value.oneCell']) rfl (.tmp 72) (.tmp 74) rfl rfl _ rfl (by first | exact lit0 _ _ | (refine (hAg.block _ (by first | (simp; done) | (simp; omega)) (fun e => by have := (HLA.out _ e.symm).1; omega)).trans ?_; first | exact lit0d _ _ | exact lit1d _ _ _ | exact lit2d _ _ _)) (by unfold maxLen; omega) (by omega) (by have := hAg.size; simp at this ⊢; omega) ?_
         intro gp capp wp hPown hPg hPblk hPlt
         obtain ⟨qp1, qp2⟩ := cellK ((KpS.refl (fun k => pv.ownBlock = some k) _).grown hPg (fun k hk => .inl hk)) (b := A) (by have := hAg.size; simp at this ⊢; omega) (fun e => (HPA.out _ e).2 rfl)
         have HGP : Hid (gp ≠ A ∧ (pv.ownBlock = some gp ∨ W.heap.size ≤ gp)) := (by
           rcases hPblk with h9 | h9
           · exact ⟨(HPA.out _ h9).2, .inl h9⟩
           · have h8 := hAg.size
             simp at h9 h8
             exact ⟨by omega, .inr (by omega)⟩)
         clear hPblk))
    all_goals go_wp2_with fail
    all_goals go_meet
    all_goals
      have KP : KpS (fun k => pv.ownBlock = some k ∨ lvv.ownBlock = some k) w5 wp := (by repeat (first | exact KpS.refl _ _ | with_reducible refine KpS.drew ?_ | with_reducible refine KpS.alloc ?_ _ | refine KpS.grown ?_ hPg (fun k hk => .inl (.inl hk)) | refine KpS.grown ?_ hAg (fun k hk => .inl (.inr hk))))
      have KA : KpS (fun k => k = A ∨ pv.ownBlock = some k) wa wp := (by repeat (first | exact KpS.refl _ _ | with_reducible refine KpS.drew ?_ | with_reducible refine KpS.alloc ?_ _ | refine KpS.grown ?_ hPg (fun k hk => .inl (.inr hk))))
      have hb := blkK KP h0 (fun e => e.elim (fun e => (HPA.out _ e).2 rfl) (fun e => (HLA.out _ e).2 rfl))
      refine ⟨.slice (some ⟨gp, 0, none⟩) (pl.length + 1) capp, .slice (some ⟨ga, 0, none⟩) (al.length + 1) capa, S5.out.rows (al' := al ++ [true]) (pl' := pl ++ [p]) ?_ ?_ ?_ ?_, ?_, ?_, ?_⟩
      · exact ((KP.mono (fun k h => .inr h)).set _ (.inl (.inl rfl))).set _ (.inl (.inl rfl))
      · first | exact setA_blk (setA_blk hb rfl) rfl | exact setA_blk (setA_blk hb rfl) rfl
      · rw [List.length_append, List.map_append]
        exact rowK (S := fun k => k = A) hPown (((KpS.refl (fun k => k = A) wp).set (a := ⟨A, _, none⟩) _ (.inl rfl)).set (a := ⟨A, _, none⟩) _ (.inl rfl)) (fun gb e e2 => by
          have e3 : gp = gb := by injection e
          exact HGP.out.1 (e3.trans e2))
      · rw [List.length_append, List.map_append]
        exact rowK (S := fun k => k = A ∨ pv.ownBlock = some k) hAown ((KA.set _ (.inl (.inl rfl))).set _ (.inl (.inl rfl))) (fun gb e e2 => by
          injection e with e
          subst e
          rcases e2 with e2 | e2
          · exact HGA.out.1 e2
          · exact HGA.out.2.1 e2)
      · rcases HGP.out.2 with h9 | h9
        · exact .inl h9.symm
        · exact .inr ⟨gp, rfl, h9⟩
      · rcases HGA.out.2.2 with h9 | h9
        · exact .inl h9.symm
        · exact .inr ⟨ga, rfl, h9⟩
      · exact ((KP.mono (fun k h => .inr h)).set _ (.inl (.inl rfl))).set _ (.inl (.inl rfl))
  case rest =>
    obtain ⟨pv', lv', R, HPB, HLB, HKX⟩ := hcut
    obtain ⟨w6, ew6⟩ : ∃ w6 : World, w6 = wc := ⟨_, rfl⟩
    subst ew6
    have hAW := H.out.lt
    have hne3 : ¬ (w3.heap.size = A ∨ pv.ownBlock = some w3.heap.size ∨ lvv.ownBlock = some w3.heap.size) := by
      rintro (h9 | h9 | h9)
      · omega
      · have := (H.out.prow.lt _ h9).2; omega
      · have := (H.out.arow.lt _ h9).2; omega
    have y0 := ((cellK HKX.out hs5 hne3).1 0).trans X0.out
    have y1 := ((cellK HKX.out hs5 hne3).1 1).trans X1.out
    have K6 : Hid (KpS (mutS A Cb bv pv lvv cv) W w6) := by
      refine (K5.out.mono (fun k h => .inl h)).trans (W := W) (w1 := w5) (w2 := w6) ?_
      exact HKX.out.mono (fun k h => by
        rcases h with h | h | h
        · exact .inl h
        · exact .inr (.inr (.inr (.inl h)))
        · exact .inr (.inr (.inr (.inr (.inl h)))))
    have hW6 := K6.out.size
    obtain ⟨e0, e1, e2, e3, e4⟩ := R.out.cell
    have RD : Hid (NmRep w6.drew base A Cb bv pv' lv' cv bh ch (al ++ [true]) (pl ++ [p]) (n + 1) N wk) := R.out.below (Below.refl _ _).drew
    have hN0 : 0 ≤ N ∧ N ≤ 100000 := by
      have h1 := HW.out.stored
      have h2 := hlv.2.2.2
      omega
    have hcl : ch.length ≤ 1000 := by
      have h1 := HW.out.levels.1
      simp at h1
      omega
    have CA := Lib.hid (car_add RD.out.car (by have := hW6; simp; omega) RD.out.cE id (al.length : Int) hN0 hcl (by have := hlv.2.2.2; omega))
    clear hne3 X0 X1 HKX K5
    go_upto_region 12 with fail
    go_cut [10, 11] from 80 to 88 (fun iv vx wx => ∃ (i : Nat) (vv cv' : Value) (ch' : List Hdr) (wk' : Int), iv = .int .i64 i ∧ vv = vx ∧ i ≤ ch.length ∧ Hid (∀ j (hj : j < ch.length), j < i → ch[j].2.1 ≠ []) ∧ Hid (∀ hi : i < ch.length, ch[i].2.1 = []) ∧
      Hid (NmCore wx base A Cb bv pv' lv' cv' bh ch' (al ++ [true]) (pl ++ [p]) (n + 1) (N + 1) wk') ∧ Hid (∀ W2 : World, (∀ (b : Nat) cur fr, wx.heap[b]? = some (Obj.cells cur 86 fr) → vv.ownBlock ≠ some b → W2.heap[b]? = wx.heap[b]?) → RowsE W2 ch') ∧ Hid (ch'.map (·.2.1) = addB (ch.map (·.2.1)) i (id, (al.length : Int))) ∧
      Hid (wx.ownsRow w6.heap.size 86 2 vv (joinB (ch.map (·.2.1)) i ++ [(id, (al.length : Int))]).length ((joinB (ch.map (·.2.1)) i ++ [(id, (al.length : Int))]).flatMap eEnt)) ∧
      Hid (cv'.ownBlock = cv.ownBlock ∨ ∃ b, cv'.ownBlock = some b ∧ W.heap.size ≤ b) ∧ Hid (KpS (fun k => k = Cb ∨ cv.ownBlock = some k) w6 wx))
    case first =>
      go_region_with (go_at_call 51; (with_reducible refine CA.out.mono ?_); rintro e w7 ⟨i, v7, cv7, ch7, wk7, rfl, hi, hne, hem, hcar, ⟨hrs, hrs2⟩, hmap, hown, hcvb, hK⟩; have HNE7 := Lib.hid hne; have HEM7 := Lib.hid hem; have HCAR7 := Lib.hid hcar; have HRS7 := Lib.hid hrs2; have HMAP7 := Lib.hid hmap; have HOWN7 := Lib.hid hown; have HCVB7 := Lib.hid hcvb; have HK7 := Lib.hid hK; clear hne hem hcar hrs hrs2 hmap hown hcvb hK)
      all_goals go_wp2_with fail
      all_goals go_meet
      all_goals
        refine ⟨i, v7, cv7, ch7, wk7, rfl, rfl, hi, HNE7, HEM7, ?_, HRS7, HMAP7, HOWN7, ?_, ?_⟩
        · exact RD.out.core.add HK7.out HCAR7.out (HCVB7.out.imp (fun h => h) .inr)
        · rcases HCVB7.out with h9 | ⟨b, h9, h8⟩
          · exact .inl h9
          · exact .inr ⟨b, h9, by simp at h8; omega⟩
        · exact ((KpS.refl _ w6).drew).trans HK7.out
    case rest =>
      obtain ⟨i, v7, cv7, ch7, wk7, rfl, rfl, hi, HNE, HEM, HC, HRS, HMAP, HOWN, HCVB, HK7⟩ := hcut
      obtain ⟨w7, ew7⟩ : ∃ w7 : World, w7 = wc := ⟨_, rfl⟩
      subst ew7
      clear y0 y1 e0 e1 e2 e3 e4 CA RD
      have HBC : Hid (bh.length = ch.length) := Lib.hid (by have := HW.out.perm.1; simpa using this)
      have hbl : bh.length ≤ 13 := by have := hlv.1; simpa using this
      have HSZ : Hid ((joinB (ch.map (·.2.1)) i ++ [(id, (al.length : Int))]).length ≤ 5001) := by
        show _ ≤ _
        rw [List.length_append, (joinB_perm _ i).length_eq]
        have e3 : ((ch.map (·.2.1)).take i).flatten ++ ((ch.map (·.2.1)).drop i).flatten = (ch.map (·.2.1)).flatten := by rw [← List.flatten_append, List.take_append_drop]
        have e5 := congrArg List.length e3
        rw [List.length_append] at e5
        have := hlv.2.2.2
        simp only [List.length_cons, List.length_nil]
        omega
      have HLV := Lib.hid hlv
      clear hlv
      go_upto_block 0 with fail
      go_cut [] from 89 to 104 (fun wx => ∃ (bv1 : Value) (bh1 : List Hdr), Hid (NmCore wx base A Cb bv1 pv' lv' cv7 bh1 ch7 (al ++ [true]) (pl ++ [p]) (n + 1) (N + 1) wk7) ∧ Hid (bh1 = bh ∧ i < bh.length ∨ bh1 = bh ++ [nilH] ∧ i = bh.length) ∧ Hid (bv1.ownBlock = bv.ownBlock ∨ ∃ b, bv1.ownBlock = some b ∧ w7.heap.size ≤ b) ∧ Hid (KpS (fun k => k = A ∨ bv.ownBlock = some k) w7 wx))
      case first =>
        go_wp2_with fail
        go_loopw [] (fun wr => ∃ (bv1 : Value) (bh1 : List Hdr), Hid (NmCore wr base A Cb bv1 pv' lv' cv7 bh1 ch7 (al ++ [true]) (pl ++ [p]) (n + 1) (N + 1) wk7) ∧ Hid (bh1 = bh ∧ bv1 = bv ∧ wr = w7 ∨ bh1 = bh ++ [nilH] ∧ i = bh.length) ∧ Hid (bv1.ownBlock = bv.ownBlock ∨ ∃ b, bv1.ownBlock = some b ∧ w7.heap.size ≤ b) ∧ Hid (KpS (fun k => k = A ∨ bv.ownBlock = some k) w7 wr)) (fun wr => i + 1 - hdrLen A wr)
        case atStart => exact ⟨bv, bh, HC, .inl ⟨rfl, rfl, rfl⟩, .inl rfl, KpS.refl _ _⟩
        case round =>
          obtain ⟨bv1, bh1, HC1, HB1, HV1, HK1⟩ := hrel
          obtain ⟨av, cp, ebv, -, hcp, -⟩ := Rd.of_owns (enc := eHdr) HC1.out.brow
          obtain ⟨-, b1, -⟩ := HC1.out.cell
          have HL := Lib.hid HC1.out.hdrLen
          by_cases hlt : i < bh1.length
          · have HB2 : Hid (bh1 = bh ∧ i < bh.length ∨ bh1 = bh ++ [nilH] ∧ i = bh.length) := by
              rcases HB1.out with ⟨h1, -⟩ | h1
              · exact .inl ⟨h1, h1 ▸ hlt⟩
              · exact .inr h1
            have dle : decide (bh1.length ≤ i) = false := by simp; omega
            rw [ebv] at b1
            go_wp2_with fail
            go_meet
            exact ⟨bv1, bh1, HC1, HB2, HV1, HK1⟩
          · obtain ⟨rfl, rfl, rfl⟩ : bh1 = bh ∧ bv1 = bv ∧ wr = w7 := by
              rcases HB1.out with h1 | ⟨h1, h2⟩
              · exact h1
              · rw [h1] at hlt; simp at hlt; omega
            have hib : i = bh1.length := by have := HBC.out; omega
            subst hib
            have dle : decide (bh1.length ≤ bh1.length) = true := by simp
            have hrow := HC1.out.brow
            have HBL : Hid (wr.heap[A]? = some (Obj.cells #[.pointer (some ⟨Cb, 0, none⟩), bv1, pv', lv', .int .i64 (n + 1)] 72 (0, 0))) := HC1.out.blk
            have HBK : Hid (∀ w8, wr.grownBy w8 bv1.ownBlock → w8.heap[A]? = some (Obj.cells #[.pointer (some ⟨Cb, 0, none⟩), bv1, pv', lv', .int .i64 (n + 1)] 72 (0, 0))) := fun w8 hg => blkK ((KpS.refl (fun k => bv1.ownBlock = some k) wr).grown hg (fun k hk => .inl hk)) HC1.out.blk (fun e => row_ne HC1.out.brow HC1.out.blk (by decide) _ e rfl)
            have hbw : base ≤ wr.heap.size := by have := HK7.out.size; omega
            subst ebv
            go_wp2_with (at_builtin; go_loud (refine wp_append1B elHdr base hrow [.slice none 0 0] rfl (by simp [Value.oneCell']) rfl _ _ rfl rfl _ rfl (by unfold maxLen; omega) (by omega) hbw ?_; intro v' w8 hown' hg hblk; obtain ⟨g8, cp8, rfl, hg81, hg82, hg83, hg84⟩ := ownRow_at hown' (by omega); have k8 := HBK.out w8 hg; have q1 : w8.cell? ⟨A, 1, none⟩ = some (.slice av bh1.length cp) := (by simp [World.cell?, k8]); have q2 : w8.frozen? ⟨A, 1, none⟩ = false := (by simp [World.frozen?, k8])))
            have hown2 : w8.ownsRow base 89 1 (.slice (some ⟨g8, 0, none⟩) (bh1.length + 1) cp8) (bh1 ++ [nilH]).length ((bh1 ++ [nilH]).map eHdr) := by
              rw [List.length_append, List.map_append]
              exact hown'
            have hb2 := blkOf_alloc hblk
            have hcore := HC1.out.bucks hg hown2 (hb2.imp (fun h => h) .inr)
            go_roundw
            case rel =>
              refine ⟨_, bh1 ++ [nilH], hcore, .inr ⟨rfl, by first | rfl | trivial⟩, hb2, (HK1.out.grown hg (fun k hk => .inl (.inr hk))).set (a := ⟨A, 1, none⟩) _ (.inl (.inl rfl))⟩
            case measure =>
              rw [hcore.hdrLen, HC1.out.hdrLen]
              simp
      case rest =>
        obtain ⟨bv1, bh1, HC1, HB1, HV1, HK1⟩ := hcut
        obtain ⟨w8, ew8⟩ : ∃ w8 : World, w8 = wc := ⟨_, rfl⟩
        subst ew8
        have hin : i < bh1.length := by
          rcases HB1.out with ⟨h1, h2⟩ | ⟨h1, h2⟩
          · rw [h1]; exact h2
          · rw [h1]; simp; omega
        have hin2 : bh1.length ≤ 14 := by
          rcases HB1.out with ⟨h1, h2⟩ | ⟨h1, h2⟩
          · rw [h1]; omega
          · rw [h1]; simp; omega
        obtain ⟨g1, cp1, ebv, hg11, hg12, -, -⟩ := ownRow_at HC1.out.brow (by omega)
        subst ebv
        have HC1a : Hid (NmCore w8 base A Cb (.slice (some ⟨g1, 0, none⟩) bh1.length cp1) pv' lv' cv7 (hdK bh1 0) ch7 (al ++ [true]) (pl ++ [p]) (n + 1) (N + 1) wk7) := HC1.out
        have hi0 : (0 : Int) ≤ (i : Int) := by omega
        go_upto_block 2 with fail
        go_cut [] from 106 to 115 (fun wx => Hid (NmCore wx base A Cb (.slice (some ⟨g1, 0, none⟩) bh1.length cp1) pv' lv' cv7 (hdK bh1 i) ch7 (al ++ [true]) (pl ++ [p]) (n + 1) (N + 1) wk7) ∧ Hid (KpS (fun k => k = g1) w8 wx))
        case first =>
          go_wp2_with fail
          go_loopw [106] (fun kv wr => ∃ k : Nat, kv = .int .i64 k ∧ k ≤ i ∧ Hid (NmCore wr base A Cb (.slice (some ⟨g1, 0, none⟩) bh1.length cp1) pv' lv' cv7 (hdK bh1 k) ch7 (al ++ [true]) (pl ++ [p]) (n + 1) (N + 1) wk7) ∧ Hid (KpS (fun k => k = g1) w8 wr)) (fun kv _ => i - (intOf kv).toNat)
          case atStart => exact ⟨0, rfl, Nat.zero_le _, HC1a, KpS.refl _ _⟩
          case round =>
            obtain ⟨k, rfl, hki, HCk, HKk⟩ := hrel
            by_cases hlt : k < i
            · have hrow := HCk.out.brow
              have hkl : (hdK bh1 k).length = bh1.length := hdK_len (by omega)
              rw [hkl] at hrow
              have zk := hrow.cellAt k (by omega)
              rw [List.getElem?_eq_getElem (show k < ((hdK bh1 k).map eHdr).length by rw [List.length_map]; omega)] at zk
              generalize ((hdK bh1 k).map eHdr)[k]'(by rw [List.length_map]; omega) = zv at zk
              have fk := hrow.frozenAt k
              obtain ⟨-, b1, -⟩ := HCk.out.cell
              have HSET : Hid (NmCore (wr.setCell ⟨g1, k, none⟩ (.slice none 0 0)) base A Cb (.slice (some ⟨g1, 0, none⟩) bh1.length cp1) pv' lv' cv7 (hdK bh1 (k + 1)) ch7 (al ++ [true]) (pl ++ [p]) (n + 1) (N + 1) wk7) := by
                have h9 := HCk.out.setB hkl.symm k nilH
                rw [hdK_set (by omega)] at h9
                exact h9
              have hlt2 : (k : Int) < (bh1.length : Int) := by omega
              clear hrow hkl
              go_wp2_with fail
              go_roundw
              case rel => exact ⟨k + 1, by go_num, by omega, HSET, HKk.out.set (a := ⟨g1, k, none⟩) _ (.inl rfl)⟩
              case measure => simp [intOf]; omega
            · obtain rfl : k = i := by omega
              go_wp2_with fail
              go_meet
              exact ⟨HCk, HKk⟩
        case rest =>
          obtain ⟨HCi, HKi⟩ := hcut
          obtain ⟨w9, ew9⟩ : ∃ w9 : World, w9 = wc := ⟨_, rfl⟩
          subst ew9
          have HJ : Hid (joinB (ch.map (·.2.1)) i ++ [(id, (al.length : Int))] = joinB (ch.map (·.2.1)) i ++ [(id, (al.length : Int))]) := Lib.hid rfl
          generalize hJ : joinB (ch.map (·.2.1)) i ++ [(id, (al.length : Int))] = J at *
          have HJ2 := Lib.hid hJ
          clear HJ hJ
          have K79 : Hid (KpS (fun k => k = A ∨ bv.ownBlock = some k) w7 w9) := by
            refine KpS.strip ((HK1.out.mono (fun k h => .inl h)).trans (HKi.out.mono (fun k h => ?_)))
            rcases HV1.out with h9 | ⟨b, h9, h8⟩
            · exact .inl (.inr (by rw [← h9, h]; rfl))
            · have h9' : g1 = b := by injection h9
              exact .inr (by omega)
          have OW9 : w9.ownsRow w6.heap.size 86 2 v7 J.length (J.flatMap eEnt) := rowK HOWN.out K79.out (fun gb e => by
            rintro (h9 | h9)
            · exact row_ne HOWN.out HC.out.blk (by decide) gb e h9.symm
            · exact rows_ne HC.out.brow HOWN.out (by decide) gb h9 e)
          have hw69 : w6.heap.size ≤ w9.heap.size := Nat.le_trans HK7.out.size K79.out.size
          obtain ⟨a7, c7, ev7, -, hc7, -⟩ := RdE.of_owns OW9
          subst ev7
          have HC7 := Lib.hid hc7
          clear hc7
          have ST := Lib.hid (sorted_grown (w := w9.drew) (base := w6.heap.size) rfl (by have := HSZ.out; omega) (OW9.drewAny 1) hw69)
          have ST2 : Calls Try.prog 52 #[.slice a7 J.length c7] w9.drew fun e w10 => ∃ (l' : List Ent) (z : Value), e = .returned (.slice a7 J.length c7) ∧ Hid (l'.Perm J) ∧ Hid (l'.Pairwise (fun x y => x.1 ≤ y.1)) ∧ Hid (RdE w10 a7 l') ∧
              Hid (NmCore w10 base A Cb (.slice (some ⟨g1, 0, none⟩) bh1.length cp1) pv' lv' cv7 (hdK bh1 i) ch7 (al ++ [true]) (pl ++ [p]) (n + 1) (N + 1) wk7) ∧ Hid (KpS (fun k => Value.ownBlock (.slice a7 J.length c7) = some k) w9 w10) ∧
              w10.cell? ⟨A, 1, none⟩ = some (.slice (some ⟨g1, 0, none⟩) bh1.length cp1) ∧ w10.cell? ⟨g1, i, none⟩ = some z ∧ w10.frozen? ⟨g1, i, none⟩ = false := by
            refine ST.out.mono ?_
            rintro e w10 ⟨rfl, l', hp, hs, ho, hg⟩
            have hcore := (HCi.out.below (Below.refl _ _).drew).ent (OW9.drewAny 1) hg
            have hrow := hcore.brow
            have hkl : (hdK bh1 i).length = bh1.length := hdK_len (by omega)
            rw [hkl] at hrow
            have zk := hrow.cellAt i (by omega)
            rw [List.getElem?_eq_getElem (show i < ((hdK bh1 i).map eHdr).length by rw [List.length_map]; omega)] at zk
            have ho2 : w10.ownsRow w6.heap.size 86 2 (.slice a7 J.length c7) l'.length (l'.flatMap eEnt) := by rw [hp.length_eq]; exact ho
            obtain ⟨a8, c8, e8, -, hre⟩ := RdE.of_owns ho2
            injection e8 with e8 _ _
            subst e8
            exact ⟨l', _, rfl, hp, hs, hre.2, hcore, ((KpS.refl _ w9).drew).grown hg (fun k hk => .inl hk), hcore.cell.2.1, zk, hrow.frozenAt i⟩
          have hlt2 : (i : Int) < (bh1.length : Int) := by omega
          have hi9 : (0 : Int) ≤ (i : Int) := by omega
          obtain ⟨-, r1, -⟩ := HCi.out.cell
          clear ST OW9
          go_upto_region 20 with fail
          go_region_with (go_at_call 52; (with_reducible refine ST2.mono ?_); rintro e w10 ⟨l', z, rfl, HP, HS, HRE, HC10, HK10, q1, z10, f10⟩)
          all_goals go_wp2_with fail
          all_goals go_ret
          all_goals
            have hl9 : Value.slice a7 J.length c7 = eHdr (a7, l', c7) := by unfold eHdr; simp only; rw [HP.out.length_eq]
            rw [hl9]
            have hkl : (hdK bh1 i).length = bh1.length := hdK_len (by omega)
            have hg1 : bv.ownBlock = some g1 ∨ w7.heap.size ≤ g1 := by
              rcases HV1.out with h9 | ⟨b, h9, h8⟩
              · exact .inl h9.symm
              · have h9' : g1 = b := by injection h9
                exact .inr (by omega)
            have hWw7 : W.heap.size ≤ w7.heap.size := Nat.le_trans hW6 HK7.out.size
            have hv7 : ∀ k, Value.ownBlock (.slice a7 J.length c7) = some k → w6.heap.size ≤ k := fun k h => (HOWN.out.lt k h).1
            have K7F : KpS (fun k => (k = A ∨ bv.ownBlock = some k) ∨ Value.ownBlock (.slice a7 J.length c7) = some k) w7 (w10.setCell ⟨g1, i, none⟩ (eHdr (a7, l', c7))) :=
              ((K79.out.mono (fun k h => .inl h)).trans (HK10.out.mono (fun k h => .inr h))).set (a := ⟨g1, i, none⟩) _ (by
                rcases hg1 with h9 | h9
                · exact .inl (.inl (.inr h9))
                · exact .inr h9)
            have K6F : KpS (fun k => ((k = Cb ∨ cv.ownBlock = some k) ∨ (k = A ∨ bv.ownBlock = some k)) ∨ w6.heap.size ≤ k) w6 (w10.setCell ⟨g1, i, none⟩ (eHdr (a7, l', c7))) :=
              (HK7.out.mono (fun k h => .inl (.inl h))).trans (K7F.mono (fun k h => by
                rcases h with h | h
                · exact .inl (.inr h)
                · exact .inr (hv7 k h)))
            have hem : ∀ h : i < (ch.map (·.2.1)).length, (ch.map (·.2.1))[i] = [] := fun h => by
              have := HEM.out (by simpa using h)
              simpa using this
            refine ⟨.slice (some ⟨g1, 0, none⟩) bh1.length cp1, pv', lv', cv7, (hdK bh1 i).set i (a7, l', c7), ch7, wk7, rfl, (HC10.out.setB hkl.symm i (a7, l', c7)).rep ?_ ?_, ?_, ?_, ?_, ?_⟩
            · intro h hh
              rcases hdK_mem HB1.out hh with rfl | rfl | h1
              · obtain ⟨cur, hgb⟩ := row_blk (k := bh1.length) (by have h9 := HC10.out.brow; rw [hkl] at h9; exact h9)
                exact ⟨HRE.out.kept fun b cur fr hb => heap_setNe (blk_ne hgb hb (by decide)), by show l'.length ≤ c7; rw [HP.out.length_eq]; exact HC7.out⟩
              · exact ⟨.inl rfl, Nat.le_refl _⟩
              · refine ⟨(R.out.bE h h1).1.kept fun b cur fr hb => R.out.core.entKept (T := fun k => w6.heap.size ≤ k) (K6F.mono (fun k h => ?_)) b cur fr hb (by have := (Array.getElem?_eq_some_iff.1 hb).1; omega), (R.out.bE h h1).2⟩
                rcases h with ((h | h) | (h | h)) | h
                · exact .inl (.inr (.inl h))
                · exact .inl (.inr (.inr (.inr (.inr (.inr h)))))
                · exact .inl (.inl h)
                · exact .inl (.inr (.inr (.inl h)))
                · exact .inr h
            · refine HRS.out _ fun b cur fr hb hne => HC.out.entKept (T := fun k => Value.ownBlock (.slice a7 J.length c7) = some k) (K7F.mono (fun k h => ?_)) b cur fr hb hne
              rcases h with (h | h) | h
              · exact .inl (.inl h)
              · exact .inl (.inr (.inr (.inl h)))
              · exact .inr h
            · rw [HMAP.out, hdK_map HB1.out]
              refine wf_put HW.out id p hno hsmall i (by simpa using hi) (fun j hj hji => ?_) hem l' (by rw [HJ2.out]; exact HP.out) HS.out
              have := HNE.out j (by simpa using hj) hji
              simpa using this
            · rw [HMAP.out]
              exact addB_perm _ i _ hem
            · rintro k (h | h | h | h | h | h)
              · exact .inl (.inl h)
              · exact .inl (.inr (.inl h))
              · rcases hg1 with h9 | h9
                · exact .inl (.inr (.inr (.inl (h9.trans h))))
                · have h8 : g1 = k := by injection h
                  exact .inr (by omega)
              · rcases HPB.out with h9 | ⟨b, h9, h8⟩
                · exact .inl (.inr (.inr (.inr (.inl (h9.symm.trans h)))))
                · have h7 : b = k := by rw [h9] at h; injection h
                  exact .inr (by omega)
              · rcases HLB.out with h9 | ⟨b, h9, h8⟩
                · exact .inl (.inr (.inr (.inr (.inr (.inl (h9.symm.trans h))))))
                · have h7 : b = k := by rw [h9] at h; injection h
                  exact .inr (by omega)
              · rcases HCVB.out with h9 | ⟨b, h9, h8⟩
                · exact .inl (.inr (.inr (.inr (.inr (.inr (h9.symm.trans h))))))
                · have h7 : b = k := by rw [h9] at h; injection h
                  exact .inr (by omega)
            · refine KpS.strip ((K6.out.mono (fun k h => .inl h)).trans (K6F.mono (fun k h => ?_)))
              rcases h with ((h | h) | (h | h)) | h
              · exact .inl (.inr (.inl h))
              · exact .inl (.inr (.inr (.inr (.inr (.inr h)))))
              · exact .inl (.inl h)
              · exact .inl (.inr (.inr (.inl h)))
              · exact .inr (by omega)
end

end Go.Proofs.Ytpebefcmloablaa
