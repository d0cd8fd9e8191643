/- The law NamesTell. -/
import Derived.Test.YtpebefcmloablaaR21
namespace Go.Proofs.Ytpebefcmloablaa
open Go.RowKit Go.Maps
set_option linter.unusedSimpArgs false
set_option linter.unusedVariables false

/-- what the model says of a name -/
def AtP (M : List Ent) (id k pl : Int) : Prop := (∃ i : Nat, ∃ h : i < M.length, k = i ∧ M[i] = (id, pl)) ∨ (k = -1 ∧ pl = 0 ∧ ∀ q, (id, q) ∉ M)

/-- blocks of other types are written -/
theorem own_kept0 {W W' : World} {base A m : Nat} {D : List (Int × Int)} (h : Own W base A m D) {T : Nat → Prop} (K : KpS T W W') (hT : ∀ k, T k → k < W.heap.size → ∃ cs t fr, W.heap[k]? = some (Obj.cells cs t fr) ∧ dirTy t = false ∧ t ≠ 86) : Own W' base A m D := by
  obtain ⟨Cb, bv, pv, lv, cv, bh, ch, al, pl, n, N, wk, hr, hw, hdd, hm, hS⟩ := h
  have hent : ∀ (b : Nat) (cur : Array Value) (fr : Nat × Nat), W.heap[b]? = some (Obj.cells cur 86 fr) → W'.heap[b]? = W.heap[b]? := fun b cur fr hb => by
    have hlt := (Array.getElem?_eq_some_iff.1 hb).1
    refine K.block b hlt fun ht => ?_
    obtain ⟨cs, t, fr', h1, -, h2⟩ := hT b ht hlt
    exact blk_ne h1 hb h2 rfl
  have hd : ∀ k, mutS A Cb bv pv lv cv k → ¬ T k := fun k hk ht => by
    obtain ⟨cs, t, fr, h1, h2⟩ := mut_typed hr k hk
    obtain ⟨cs', t', fr', h1', h2', -⟩ := hT k ht (Array.getElem?_eq_some_iff.1 h1).1
    rw [h1] at h1'
    injection h1' with h1'
    injection h1' with _ h1' _
    subst h1'
    rw [h2] at h2'
    cases h2'
  exact ⟨Cb, bv, pv, lv, cv, bh, ch, al, pl, n, N, wk, ⟨hr.hb, blkK K hr.blk (hd _ (.inl rfl)), ⟨hr.car.hb, blkK K hr.car.blk (hd _ (.inr (.inl rfl))), rowK hr.car.row K fun gb e => hd _ (.inr (.inr (.inr (.inr (.inr e)))))⟩, rowK hr.brow K fun gb e => hd _ (.inr (.inr (.inl e))), rowK hr.prow K fun gb e => hd _ (.inr (.inr (.inr (.inl e)))), rowK hr.arow K fun gb e => hd _ (.inr (.inr (.inr (.inr (.inl e))))), hr.bE.kept hent, hr.cE.kept hent, hr.sep⟩, hw, hdd, hm, hS⟩

/-- a row of another type is lengthened -/
theorem own_kept {W W' : World} {base A m b' : Nat} {D : List (Int × Int)} {e : TypeId} {sz n : Nat} {v : Value} {xs : List Value} (h : Own W base A m D) (ho : W.ownsRow b' e sz v n xs) (hg : W.grownBy W' v.ownBlock) (he : dirTy e = false) (he2 : e ≠ 86) : Own W' base A m D := by
  refine own_kept0 h ((KpS.refl (fun k => v.ownBlock = some k) W).grown hg (fun k hk => .inl hk)) fun k hk _ => ?_
  rcases ho.2 with ⟨rfl, _⟩ | ⟨g, cap, cur, rfl, _, hh, _⟩
  · cases hk
  · simp only [Value.ownBlock, Option.some.injEq] at hk
    subst hk
    exact ⟨_, _, _, hh, he, he2⟩

theorem filter_erase (M : List Ent) (h : (M.map (·.1)).Nodup) (i : Nat) (hi : i < M.length) : (M.filter fun x => decide (x.1 ≠ M[i].1)) = M.eraseIdx i := by
  have e : M = M.take i ++ M[i] :: M.drop (i + 1) := by rw [← List.drop_eq_getElem_cons hi, List.take_append_drop]
  have hn := h
  rw [e, List.map_append, List.map_cons, List.nodup_append] at hn
  obtain ⟨-, h2, h3⟩ := hn
  rw [List.nodup_cons] at h2
  rw [List.eraseIdx_eq_take_drop_succ]
  have key : ∀ (A B : List Ent) (m : Ent), (∀ x ∈ A, x.1 ≠ m.1) → (∀ x ∈ B, x.1 ≠ m.1) → (A ++ m :: B).filter (fun x => decide (x.1 ≠ m.1)) = A ++ B := by
    intro A B m hA hB
    rw [List.filter_append, List.filter_cons, if_neg (by simp), List.filter_eq_self.2 (fun x hx => by simpa using hA x hx), List.filter_eq_self.2 (fun x hx => by simpa using hB x hx)]
  have := key (M.take i) (M.drop (i + 1)) M[i] (fun x hx e9 => h3 x.1 (List.mem_map_of_mem hx) M[i].1 (by simp) e9) (fun x hx e9 => h2.1 (by rw [← e9]; exact List.mem_map_of_mem hx))
  rw [← e] at this
  exact this

set_option maxRecDepth 100000 in
set_option maxHeartbeats 16000000 in
theorem wNamesTell (a : Option Addr) (ops : List Op21) (n c : Nat) (W : World) (e0 : ops.length = n) (r0 : RdK eOp 3 W a ops) (m0 : n ≤ c ∧ c ≤ maxLen) (f0 : ∀ x ∈ ops, (Lit.int .u8 x.1).wf = true ∧ (Lit.int .u32 x.2.1).wf = true ∧ (Lit.int .i64 x.2.2).wf = true) :
    Calls Try.prog 9 #[.slice a n c] W fun e w' => e = .returned (.bool true) ∧ Below W.heap.size W w' := by
  subst e0
  have hc : ops.length ≤ c := m0.1
  have hc2 : ops.length ≤ 9223372036854775807 := by have := m0.2; unfold maxLen at this; omega
  have HF := Lib.hid f0
  have HRD := Lib.hid r0
  obtain ⟨B, hB⟩ : ∃ B, B = W.heap.size := ⟨_, rfl⟩
  have C1 : Hid (Calls Try.prog 28 #[] W fun e w' => e = .returned (.pointer (some ⟨B + 1, 0, none⟩)) ∧ Own w' B (B + 1) 0 [] ∧ Below B W w') := by rw [hB]; exact oNew W
  have HBW := Lib.hid hB
  have hBW : B ≤ W.heap.size := Nat.le_of_eq hB
  rw [← hB]
  clear m0 f0 r0 hB
  go_enter Try.func9, Try.ntmps9
  go_wp2_with fail
  refine C1.out.mono ?_
  rintro e w1 ⟨rfl, o, hb⟩
  have O1 := Lib.hid o
  have HB1 := Lib.hid hb
  have h1 := hb.size
  clear o hb C1
  obtain ⟨m, hm, hm1, hm2⟩ : ∃ m : Nat, min (ops.length : Int) 120 = (m : Int) ∧ m ≤ ops.length ∧ m ≤ 120 := ⟨min ops.length 120, by omega, by omega, by omega⟩
  go_wp2_with (refine wp_sliceKA elOp (HRD.out.below HB1.out (by rw [HBW.out]; exact Nat.le_refl _)) hc 0 m (Nat.zero_le _) hm1 rfl _ _ _ rfl rfl rfl rfl ?_; intro ad hr; simp only [Nat.sub_zero, List.drop_zero] at hr ⊢)
  have hPl : (ops.take m).length = m := by simp; omega
  have HPR : Hid (∀ W', Below B W W' → RdK eOp 3 W' ad (ops.take m)) := fun W' hb => hr W' (HRD.out.below hb (by rw [HBW.out]; exact Nat.le_refl _))
  have HFP : Hid (∀ x ∈ ops.take m, 0 ≤ x.1 ∧ x.1 ≤ 255) := fun x hx => wf_u8 (HF.out x (List.mem_of_mem_take hx)).1
  clear hr hm HF
  generalize ops.take m = P at *
  subst hPl
  go_loopw [25, 4] (fun kv mv wr => ∃ (k : Nat) (M : List Ent) (mw : Value), kv = .int .i64 k ∧ mw = mv ∧ k ≤ P.length ∧ Hid (Own wr B (B + 1) k M) ∧ Hid (wr.ownsRow B 54 2 mw M.length (M.flatMap eEnt)) ∧ Below B W wr) (fun kv _ _ => P.length - (intOf kv).toNat)
  case atStart => exact ⟨0, [], _, rfl, rfl, Nat.zero_le _, O1.out, World.ownsRow_nil _ _ _ _, HB1.out⟩
  case round =>
    obtain ⟨k, M, mw, rfl, rfl, hk, HD, HM, hb⟩ := hrel
    have hsz := hb.size
    have hBr : B ≤ wr.heap.size := Nat.le_trans hBW hsz
    have hMl := HD.out.len
    by_cases hkl : k < P.length
    · obtain ⟨b, off, ea, hbl, hcs⟩ := (HPR.out wr hb).get (by omega)
      have x0 := hcs k hkl 0 (by omega)
      have x1 := hcs k hkl 1 (by omega)
      have x2 := hcs k hkl 2 (by omega)
      simp only [eOp, List.getElem?_cons_zero, List.getElem?_cons_succ, Nat.add_zero] at x0 x1 x2
      obtain ⟨hd0, hd1⟩ := HFP.out P[k] (List.getElem_mem hkl)
      have EA := Lib.hid ea
      clear hcs ea
      generalize P[k] = r at *
      obtain ⟨d, oi, op⟩ := r
      simp only at x0 x1 x2 hd0 hd1
      have hkl2 : (k : Int) < (P.length : Int) := by omega
      obtain rfl := EA.out
      clear EA
      obtain ⟨y0, y1, y2⟩ := objOp_cells wr d oi op
      have HB2 : Hid (Below B W (wr.alloc (.cells #[.int .u8 d, .int .u32 oi, .int .i64 op] 51))) := Lib.hid (hb.alloc hBr _)
      have OA := Lib.hid (HD.out.below ((Below.refl _ _).alloc (Nat.le_refl _) (.cells #[.int .u8 d, .int .u32 oi, .int .i64 op] 51)))
      have HMA := Lib.hid (HM.out.alloc (.cells #[.int .u8 d, .int .u32 oi, .int .i64 op] 51))
      have hBa : B ≤ (wr.alloc (.cells #[.int .u8 d, .int .u32 oi, .int .i64 op] 51)).heap.size := by simp; omega
      have HOB : Hid ((wr.alloc (.cells #[.int .u8 d, .int .u32 oi, .int .i64 op] 51)).heap[wr.heap.size]? = some (.cells #[.int .u8 d, .int .u32 oi, .int .i64 op] 51)) := lit0 _ _
      obtain ⟨ma, mc, emw, -, hmc, hmrd⟩ := RdK.of_owns eEnt_len (by decide) HMA.out
      subst emw
      have HMR := Lib.hid hmrd
      have hmc2 : M.length ≤ 9223372036854775807 := by omega
      have CF := Lib.hid (ref21_find ma M mc oi _ hmrd (by omega))
      clear hb hmrd HM HD
      go_wp2_with fail
      refine CF.out.mono ?_
      rintro e w3 ⟨at_, rfl, hat, rfl⟩
      generalize hw3 : wr.alloc (.cells #[.int .u8 d, .int .u32 oi, .int .i64 op] 51) = w3 at *
      have HW3 := Lib.hid hw3
      have HAT := Lib.hid hat
      have hwr3 : wr.heap.size < w3.heap.size := by rw [← hw3]; simp
      clear CF hat hw3
      go_upto_if 34 with fail
      go_cut [8] from 34 to 39 (fun pv wx => ∃ pl, pv = .int .i64 pl ∧ Hid (AtP M oi at_ pl) ∧ Hid (wx = w3))
      case first =>
        rcases HAT.out with ⟨i, hi, rfl, hMi⟩ | ⟨rfl, hno⟩
        · obtain ⟨b1, o1, ea1, hbl1, hc1⟩ := HMR.out.get (by omega)
          have z1 := hc1 i hi 1 (by omega)
          simp only [eEnt, List.getElem?_cons_zero, List.getElem?_cons_succ] at z1
          have HAP : Hid (AtP M oi i M[i].2) := .inl ⟨i, hi, rfl, by rw [← hMi]⟩
          have EA1 := Lib.hid ea1
          clear hc1 ea1 hMi
          generalize M[i].2 = pl at *
          have EA2 := EA1.out
          subst EA2
          have dge : decide ((0 : Int) ≤ (i : Int)) = true := by simp
          have hi2 : (i : Int) < (M.length : Int) := by omega
          clear EA1
          go_wp2_with fail
          go_meet
          exact ⟨pl, rfl, HAP, (by first | rfl | trivial)⟩
        · have HAP : Hid (AtP M oi (-1) 0) := .inr ⟨rfl, rfl, fun q hq => hno _ hq rfl⟩
          clear hno
          go_wp2_with fail
          go_meet
          exact ⟨0, rfl, HAP, (by first | rfl | trivial)⟩
      case rest =>
        obtain ⟨pl, rfl, HAP, hwx⟩ := hcut
        obtain rfl : wc = w3 := hwx.out
        clear hwx HAT
        go_upto_block 2 with fail
        go_cut [4, 9, 10, 11, 12, 13, 14] from 43 to 113 (fun mv v9 v10 v11 v12 v13 v14 wx => ∃ (M2 : List Ent) (mw2 : Value), mw2 = mv ∧ Hid (Own wx B (B + 1) (k + 1) M2) ∧ Hid (wx.ownsRow B 54 2 mw2 M2.length (M2.flatMap eEnt)) ∧ Hid (Below B W wx))
        case first =>
          have HND := Lib.hid OA.out.nodup
          have HKC : Hid (∀ w2, KeepB wc w2 → w2.cell? ⟨wr.heap.size, 1, none⟩ = some (.int .u32 oi) ∧ w2.cell? ⟨wr.heap.size, 2, none⟩ = some (.int .i64 op)) := fun w2 hk => by
            have h9 := hk _ _ _ _ HOB.out (by decide)
            rw [World.cell?_of_block (a := ⟨wr.heap.size, 1, none⟩) h9, World.cell?_of_block (a := ⟨wr.heap.size, 2, none⟩) h9]
            exact ⟨y1, y2⟩
          have hd3 : d % 3 = 0 ∨ d % 3 = 1 ∨ d % 3 = 2 := by omega
          rcases HAP.out with ⟨i, hi, rfl, hMi⟩ | ⟨rfl, rfl, hno⟩
          · have hmem : (oi, pl) ∈ M := hMi ▸ List.getElem_mem hi
            have HME := Lib.hid hmem
            have HMI := Lib.hid hMi
            have dlt : decide ((i : Int) < 0) = false := by simp
            have dge : decide ((0 : Int) ≤ (i : Int)) = true := by simp
            have dpl : (pl != pl) = false := by simp
            clear hMi hmem
            rcases hd3 with h3 | h3 | h3
            · have t0 : (d % 3 == 0) = true := by simp [h3]
              clear h3
              go_wp2_with fail
              refine (dPut_there OA.out oi op pl HME.out).mono ?_
              rintro e w4 ⟨rfl, hb4⟩
              have HX := Lib.hid hb4
              clear hb4
              go_wp2_with fail
              go_meet
              exact ⟨M, _, rfl, (OA.out.below HX.out).more (by omega), ownsRow_below HMA.out HX.out, HB2.out.trans (HX.out.mono hBa)⟩
            · have t0 : (d % 3 == 0) = false := by simp [h3]
              have t1 : (d % 3 == 1) = true := by simp [h3]
              clear h3
              go_wp2_with fail
              refine (dFind OA.out oi).mono ?_
              rintro e w4 ⟨t, -, hf, hb4⟩
              obtain rfl : e = .returned (.tuple #[.int .i64 pl, .bool true, .int .i64 t]) := by
                rcases hf with ⟨q, h9, h8⟩ | ⟨h9, -⟩
                · have := nodup_fst HND.out h9 HME.out rfl
                  injection this with _ this
                  rw [h8, this]
                · exact absurd HME.out (h9 pl)
              have HX := Lib.hid hb4
              clear hb4 hf
              go_wp2_with fail
              go_meet
              exact ⟨M, _, rfl, (OA.out.below HX.out).more (by omega), ownsRow_below HMA.out HX.out, HB2.out.trans (HX.out.mono hBa)⟩
            · have t0 : (d % 3 == 0) = false := by simp [h3]
              have t1 : (d % 3 == 1) = false := by simp [h3]
              clear h3
              go_wp2_with fail
              refine (oDrop_yes OA.out hBa oi pl HME.out).mono ?_
              rintro e w4 ⟨rfl, o4, hb4, hk4⟩
              have hMi1 : M[i].1 = oi := by rw [HMI.out]
              have hfe := filter_erase M HND.out i hi
              rw [hMi1] at hfe
              rw [hfe] at o4
              have O4 := Lib.hid o4
              have HX := Lib.hid (HB2.out.trans hb4)
              have HM4 := hk4.row HMA.out (by decide)
              obtain ⟨ma4, mc4, e4, -, -, hr4⟩ := RdK.of_owns eEnt_len (by decide) HM4
              injection e4 with e4 _ e5
              subst e4 e5
              have hw4 : B ≤ w4.heap.size := Nat.le_trans hBa hb4.size
              have CD := Lib.hid (ref21_drop ma M mc i w4 hr4 (by omega))
              clear o4 hb4 hk4 HM4 hr4 hfe hMi1
              go_wp2_with fail
              refine CD.out.mono ?_
              rintro e w5 ⟨v5, rfl, ho5, hb5⟩
              have HO5 := Lib.hid (rowMono ho5 hw4)
              have HX5 := Lib.hid hb5
              clear ho5 hb5 CD
              go_wp2_with fail
              go_meet
              exact ⟨M.eraseIdx i, _, rfl, (O4.out.below HX5.out).more (by omega), HO5, HX.out.trans (HX5.out.mono hw4)⟩
          · have HNO := Lib.hid hno
            have dlt : decide ((-1 : Int) < 0) = true := by decide
            have dge : decide ((0 : Int) ≤ -1) = false := by decide
            clear hno
            rcases hd3 with h3 | h3 | h3
            · have t0 : (d % 3 == 0) = true := by simp [h3]
              clear h3
              go_wp2_with fail
              refine (oPut_new OA.out hBa (by omega) oi op HNO.out).mono ?_
              rintro e w4 ⟨rfl, o4, hb4, hk4⟩
              have O4 := Lib.hid o4
              have HX := Lib.hid (HB2.out.trans hb4)
              have HM4 := Lib.hid (hk4.row HMA.out (by decide))
              obtain ⟨z1, z2⟩ := HKC.out w4 hk4
              have hw4 : B ≤ w4.heap.size := Nat.le_trans hBa hb4.size
              clear o4 hb4 hk4
              go_wp2_with (at_builtin; refine wp_append1 elRef21 B HM4.out [.int .u32 oi, .int .i64 op] rfl (by simp [Value.oneCell']) rfl _ _ rfl rfl _ rfl (by unfold maxLen; omega) (by omega) hw4 ?_; intro v' w6 hown' hg)
              go_meet
              have HO6 : Hid (w6.ownsRow B 54 2 v' (M ++ [(oi, op)]).length ((M ++ [(oi, op)]).flatMap eEnt)) := by rw [List.length_append, List.flatMap_append]; exact hown'
              exact ⟨M ++ [(oi, op)], _, rfl, own_kept O4.out HM4.out hg (by decide) (by decide), HO6, below_grown HX.out HM4.out hg hw4 (Nat.le_refl _)⟩
            · have t0 : (d % 3 == 0) = false := by simp [h3]
              have t1 : (d % 3 == 1) = true := by simp [h3]
              clear h3
              go_wp2_with fail
              refine (dFind OA.out oi).mono ?_
              rintro e w4 ⟨t, -, hf, hb4⟩
              obtain rfl : e = .returned (.tuple #[.int .i64 0, .bool false, .int .i64 t]) := by
                rcases hf with ⟨q, h9, -⟩ | ⟨-, h8⟩
                · exact absurd h9 (HNO.out q)
                · exact h8
              have HX := Lib.hid hb4
              clear hb4 hf
              go_wp2_with fail
              go_meet
              exact ⟨M, _, rfl, (OA.out.below HX.out).more (by omega), ownsRow_below HMA.out HX.out, HB2.out.trans (HX.out.mono hBa)⟩
            · have t0 : (d % 3 == 0) = false := by simp [h3]
              have t1 : (d % 3 == 1) = false := by simp [h3]
              clear h3
              go_wp2_with fail
              refine (dDrop_no OA.out oi HNO.out).mono ?_
              rintro e w4 ⟨rfl, hb4⟩
              have HX := Lib.hid hb4
              clear hb4
              go_wp2_with fail
              go_meet
              exact ⟨M, _, rfl, (OA.out.below HX.out).more (by omega), ownsRow_below HMA.out HX.out, HB2.out.trans (HX.out.mono hBa)⟩
        case rest =>
          obtain ⟨M2, mw2, rfl, HD2, HM2, HB3⟩ := hcut
          obtain ⟨w4, ew4⟩ : ∃ w4 : World, w4 = wc := ⟨_, rfl⟩
          subst ew4
          have hw4 : B ≤ w4.heap.size := Nat.le_trans hBW HB3.out.size
          obtain ⟨ma2, mc2, e2, -, hmc3, hmr2⟩ := RdK.of_owns eEnt_len (by decide) HM2.out
          subst e2
          have HMR2 := Lib.hid hmr2
          have hM2l := HD2.out.len
          have HND2 := Lib.hid HD2.out.nodup
          clear hmr2 x0 x1 x2 y0 y1 y2 HAP HMR HMA OA HB2 HOB
          go_wp2_with fail
          refine (dAll HD2.out).mono ?_
          rintro e w5 ⟨v5, rfl, hown, hb5⟩
          obtain ⟨SL, hSL⟩ : ∃ SL, SL = (M2.map (·.1)).mergeSort fun x y => decide (x ≤ y) := ⟨_, rfl⟩
          have hSLl : SL.length = M2.length := by rw [hSL, List.length_mergeSort, List.length_map]
          rw [← hSL] at hown
          obtain ⟨av, cp, e5, -, -, hrd⟩ := Rd.of_owns (enc := Value.int .u32) hown
          rw [hSLl] at e5
          subst e5
          have HRA := Lib.hid hrd
          have HPM : Hid (SL.Perm (M2.map (·.1))) := by rw [hSL]; exact List.mergeSort_perm _ _
          have HST : Hid (SL.Pairwise fun x y => x < y) := by
            have h1 : SL.Pairwise fun x y => x ≤ y := by
              have := List.pairwise_mergeSort (le := fun x y : Int => decide (x ≤ y)) (fun a b c h1 h2 => by simp at *; omega) (fun a b => by simp; omega) (M2.map (·.1))
              rw [← hSL] at this
              exact this.imp fun h => by simpa using h
            have h2 : SL.Nodup := (HPM.out.nodup_iff).2 HND2.out
            exact (h1.and h2).imp fun h => by omega
          have HLS := Lib.hid hSLl
          have HB5 := Lib.hid (HB3.out.trans (hb5.mono hw4))
          have O5 := Lib.hid (HD2.out.below hb5)
          have HM5 := Lib.hid (ownsRow_below HM2.out hb5)
          have hw5 : B ≤ w5.heap.size := Nat.le_trans hw4 hb5.size
          clear hSL hSLl hrd hown hb5 HD2 HM2 HB3
          go_wp2_with fail
          refine (dLen O5.out).mono ?_
          rintro e w6 ⟨rfl, hb6⟩
          have HB6 := Lib.hid (HB5.out.trans (hb6.mono hw5))
          have O6 := Lib.hid (O5.out.below hb6)
          have HM6 := Lib.hid (ownsRow_below HM5.out hb6)
          have HRA6 := Lib.hid (HRA.out.below hb6)
          have hw6 : B ≤ w6.heap.size := Nat.le_trans hw5 hb6.size
          have dl : ((M2.length : Int) != (M2.length : Int)) = false := by simp
          clear hb6 HB5 O5 HM5 HRA
          obtain ⟨ma6, mc6, e6, -, -, hmr6⟩ := RdK.of_owns eEnt_len (by decide) HM6.out
          injection e6 with e6 _ e7
          subst e6 e7
          have HMR6 := Lib.hid hmr6
          clear hmr6 HMR2
          go_wp2_with fail
          obtain ⟨wo, ewo⟩ : ∃ wo : World, wo = wr := ⟨_, rfl⟩
          subst ewo
          go_loopw [130] (fun jv wr => ∃ j : Nat, jv = .int .i64 j ∧ j ≤ M2.length ∧ Hid (wr = w6)) (fun jv _ => M2.length - (intOf jv).toNat)
          case atStart => exact ⟨0, rfl, Nat.zero_le _, (by first | rfl | trivial)⟩
          case round =>
            obtain ⟨j, rfl, hj, hwr⟩ := hrel
            obtain rfl : wr = w6 := hwr.out
            clear hwr
            by_cases hjl : j < M2.length
            · have hj9 : j < SL.length := by rw [HLS.out]; exact hjl
              obtain ⟨b1, o1, ea1, hbl1, hc1⟩ := HRA6.out.get (by omega)
              have z1 := hc1 j hj9
              have HIN : Hid (∃ q, (SL[j], q) ∈ M2) := mem_map_fst.1 (HPM.out.mem_iff.1 (List.getElem_mem hj9))
              have HPV : Hid (∀ h0 : 0 < j, ∃ y, wr.cell? ⟨b1, o1 + (j - 1), none⟩ = some (.int .u32 y) ∧ y < SL[j]) := fun h0 => ⟨SL[j - 1], hc1 (j - 1) (by omega), List.pairwise_iff_getElem.1 HST.out (j - 1) j (by omega) hj9 (by omega)⟩
              have EA1 := Lib.hid ea1
              clear hc1 ea1
              generalize SL[j] = x at *
              obtain rfl := EA1.out
              clear EA1
              have hjl2 : (j : Int) < (M2.length : Int) := by omega
              have CF := Lib.hid (ref21_find ma2 M2 mc2 x wr HMR6.out (by omega))
              go_wp2_with fail
              refine CF.out.mono ?_
              rintro e w7 ⟨at2, rfl, hat2, rfl⟩
              obtain ⟨i2, rfl⟩ : ∃ i2 : Nat, at2 = i2 := by
                rcases hat2 with ⟨i, hi, h1, -⟩ | ⟨-, h1⟩
                · exact ⟨i, h1⟩
                · obtain ⟨q, hq⟩ := HIN.out
                  exact absurd rfl (h1 _ hq)
              have d0 : decide ((i2 : Int) < 0) = false := by simp
              clear hat2 CF
              by_cases h0 : 0 < j
              · obtain ⟨y, z2, hy⟩ := HPV.out h0
                have dj : decide ((0 : Int) < (j : Int)) = true := by simp; omega
                have hjm : ((j : Int) - 1) = ((j - 1 : Nat) : Int) := by omega
                have dy : decide (x ≤ y) = false := by simp; omega
                have hj1 : ((j - 1 : Nat) : Int) < (M2.length : Int) := by omega
                go_wp2
                go_roundw
                case rel => exact ⟨j + 1, by go_num, by omega, (by first | rfl | trivial)⟩
                case measure => simp [intOf]; omega
              · obtain rfl : j = 0 := by omega
                clear h0
                go_wp2
                go_roundw
                case rel => exact ⟨1, by go_num, by omega, (by first | rfl | trivial)⟩
                case measure => simp [intOf]; omega
            · obtain rfl : j = M2.length := by omega
              go_wp2
              go_roundw
              case rel => exact ⟨k + 1, M2, _, by go_num, rfl, by omega, O6, HM6, HB6.out⟩
              case measure => simp [intOf]; omega
    · have HB0 := Lib.hid hb
      have hge : ¬ (k : Int) < (P.length : Int) := by omega
      clear hb HD
      go_wp2_with fail
      refine (awake21 wr).mono ?_
      rintro e w2 ⟨rfl, hb2⟩
      have HBF := Lib.hid (HB0.out.trans (hb2.mono hBr))
      clear hb2
      go_wp2
      go_ret
      exact ⟨rfl, HBF.out⟩

end Go.Proofs.Ytpebefcmloablaa
