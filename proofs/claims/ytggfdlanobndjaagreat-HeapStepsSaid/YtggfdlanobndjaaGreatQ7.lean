/- Several texts in one: Bsx, Del, Drp1, Drp2, Drp3, Tre, L11w, L11d, LiftP, LiftB, Obj, Rf10, Hds. -/
import Derived.Test.YtggfdlanobndjaaGreatQ4
import Derived.Test.YtggfdlanobndjaaGreatQ3
import Derived.Deep.CutBlock
import Derived.Deep.CutRange
import Derived.Test.YtggfdlanobndjaaGreatShelf2
import Derived.Test.YtggfdlanobndjaaGreatQ2
import Derived.Deep.LoopGhost
import Derived.Test.YtggfdlanobndjaaGreatQ6
import Derived.Test.YtggfdlanobndjaaGreatQ5
import Derived.Deep.RegionWith
import Derived.Deep.Slices
import Derived.Deep.Fields
import Derived.ChangeSame
import Derived.Lib.SmallJoins
import Derived.Deep.Grids
import Derived.OpenShut

/- slices.BinarySearchFunc(row, p, item.ByX): where a point stands. -/
namespace Go.Proofs.YtggfdlanobndjaaGreat
open Go.RowKit Go.Maps
attribute [local irreducible] wpQuiet
set_option linter.unusedSimpArgs false
set_option linter.unusedVariables false

def BsxP (l : List Pt) (p : Pt) (w : World) (e : Ending) (w' : World) : Prop :=
  ∃ k : Nat, e = .returned (.tuple #[.int .i64 k, .bool (decide (∃ h : k < l.length, ordX l[k] p = 0))]) ∧ k ≤ l.length ∧ (∀ t (h : t < l.length), t < k → ordX l[t] p < 0) ∧ (∀ t (h : t < l.length), k ≤ t → ¬ ordX l[t] p < 0) ∧ Below w.heap.size w w'

set_option maxRecDepth 100000 in
set_option maxHeartbeats 2000000 in
theorem bsfX (a : Option Addr) (l : List Pt) (n cp : Nat) (p : Pt) (W : World) (hn : l.length = n) (hl : n ≤ 1000000) (hr : RdK ePt 3 W a l) (hs : l.Pairwise ltX) :
    Calls Tryz.prog 53 #[.slice a n cp, vPt p.1 p.2.1 p.2.2, .func (.func 45) #[] #[]] W (BsxP l p W) := by
  subst hn
  obtain ⟨px, py, pi⟩ := p
  have HR := Lib.hid hr
  have HS := Lib.hid hs
  have HC := Lib.hid (fun (q : Pt) W => (iByX q (px, py, pi) W).mono (fun e w' (h : e = .returned (.int .i64 (ordX q (px, py, pi))) ∧ Grw W w') => (⟨h.1, h.2.below (Nat.le_refl _)⟩ : e = .returned (.int .i64 (ordX q (px, py, pi))) ∧ Below W.heap.size W w')))
  have mono1 : Hid (∀ t i (h1 : t < l.length) (h2 : i < l.length), t ≤ i → ordX l[i] (px, py, pi) < 0 → ordX l[t] (px, py, pi) < 0) := fun t i h1 h2 h3 h4 => by
    by_cases e : t = i
    · subst e; exact h4
    · have h5 := List.pairwise_iff_getElem.1 HS.out t i h1 h2 (by omega)
      rw [ordX_lt] at h4 ⊢
      exact ltX_trans h5 h4
  clear hr hs
  go_enter Tryz.func53, Tryz.ntmps53
  go_wp2_with fail
  have hb0 : Below W.heap.size W (W.alloc (.cells #[.int .i64 px, .int .i64 py, .int .u32 pi] 34)) := (Below.refl _ _).alloc (Nat.le_refl _) _
  have HX0 : Hid ((W.alloc (.cells #[.int .i64 px, .int .i64 py, .int .u32 pi] 34)).heap[W.heap.size]? = some (.cells #[.int .i64 px, .int .i64 py, .int .u32 pi] 34 (0, 0))) := lit0 W _
  have hs0 : W.heap.size < (W.alloc (.cells #[.int .i64 px, .int .i64 py, .int .u32 pi] 34)).heap.size := by simp
  generalize (W.alloc (.cells #[.int .i64 px, .int .i64 py, .int .u32 pi] 34)) = W0 at *
  have HB0 := Lib.hid hb0
  clear hb0
  go_loopw [9, 10] (fun iv jv wr => ∃ i j : Nat, iv = .int .i64 i ∧ jv = .int .i64 j ∧ i ≤ j ∧ j ≤ l.length ∧ Hid (∀ t (h : t < l.length), t < i → ordX l[t] (px, py, pi) < 0) ∧ Hid (∀ t (h : t < l.length), j ≤ t → ¬ ordX l[t] (px, py, pi) < 0) ∧ Hid (Below W0.heap.size W0 wr))
    (fun iv jv _ => (intOf jv).toNat - (intOf iv).toNat)
  case atStart => exact ⟨0, l.length, rfl, rfl, Nat.zero_le _, Nat.le_refl _, fun t h h2 => absurd h2 (Nat.not_lt_zero _), fun t h h2 => absurd h (by omega), Below.refl _ _⟩
  case round =>
    obtain ⟨i, j, rfl, rfl, hij, hj, H1, H2, HB⟩ := hrel
    have hbw : Below W.heap.size W wr := HB0.out.trans (HB.out.mono HB0.out.size)
    have hpc := (HB.out.block _ hs0).trans HX0.out
    have k0 := cell_belowW (w := wr) (ad := ⟨W.heap.size, 0, none⟩) (v := .int .i64 px) (by simp [World.cell?, hpc])
    have k1 := cell_belowW (w := wr) (ad := ⟨W.heap.size, 1, none⟩) (v := .int .i64 py) (by simp [World.cell?, hpc])
    have k2 := cell_belowW (w := wr) (ad := ⟨W.heap.size, 2, none⟩) (v := .int .u32 pi) (by simp [World.cell?, hpc])
    by_cases hlt : i < j
    · obtain ⟨m, hm⟩ : ∃ m, m = (i + j) / 2 := ⟨_, rfl⟩
      have hmi : ((i : Int) + (j : Int)) / 2 = (m : Int) := by omega
      have hmj : m < l.length := by omega
      have hmij : i ≤ m ∧ m < j := by omega
      clear hm
      obtain ⟨b, off, ea, hbb, hcs⟩ := (HR.out.below hbw).get (by omega)
      have x0 := hcs (m) hmj 0 (by omega)
      have x1 := hcs (m) hmj 1 (by omega)
      have x2 := hcs (m) hmj 2 (by omega)
      simp only [ePt, List.getElem?_cons_zero, List.getElem?_cons_succ, Nat.add_zero] at x0 x1 x2
      have x0 := cell_belowW x0
      have x1 := cell_belowW x1
      have x2 := cell_belowW x2
      have HLO : Hid (ordX l[m] (px, py, pi) < 0 → ∀ t (h : t < l.length), t < m + 1 → ordX l[t] (px, py, pi) < 0) := fun h t ht h2 => mono1.out t _ ht hmj (by omega) h
      have HHI : Hid (¬ ordX l[m] (px, py, pi) < 0 → ∀ t (h : t < l.length), m ≤ t → ¬ ordX l[t] (px, py, pi) < 0) := fun h t ht h2 h3 => h (mono1.out _ t hmj ht h2 h3)
      have HCC : Hid (∀ p : BelowW wr, Calls Tryz.prog 45 #[vPt l[m].1 l[m].2.1 l[m].2.2, vPt px py pi] p.W fun e w' => e = .returned (.int .i64 (ordX l[m] (px, py, pi))) ∧ Below p.W.heap.size p.W w') := fun p => HC.out l[m] p.W
      have EA := Lib.hid ea
      obtain ⟨o, ho⟩ : ∃ o, o = ordX l[m] (px, py, pi) := ⟨_, rfl⟩
      rw [← ho] at HLO HHI HCC
      clear hcs ea ho hpc
      generalize l[m] = q at *
      obtain ⟨qx, qy, qi⟩ := q
      simp only at x0 x1 x2 HCC
      obtain rfl := EA.out
      clear EA
      go_upto_region 5 with fail
      refine wp_region_below (by kernel_rfl) (by kernel_rfl) ?_
      repeat (quiet_step ((go_at_call 45; exact calls_below (HCC.out _))))
      refine wpQuiet_nil ?_
      intro w2 hw'
      have hb2 : Below wr.heap.size wr w2 := by obtain ⟨p, rfl⟩ := hw'; exact p.h
      have HB2 : Hid (Below W0.heap.size W0 w2) := HB.out.trans (hb2.mono HB.out.size)
      clear hw' k0 k1 k2 x0 x1 x2 hb2 HCC
      by_cases ho : o < 0
      · have HLO2 := Lib.hid (HLO.out ho)
        have d1 : decide (o < 0) = true := by simpa using ho
        clear HLO HHI
        go_wp2
        go_roundw
        case rel => exact ⟨m + 1, j, by go_num, rfl, by omega, hj, HLO2, H2, HB2⟩
        case measure => simp [intOf]; omega
      · have HHI2 := Lib.hid (HHI.out ho)
        have d1 : decide (o < 0) = false := by simpa using ho
        clear HLO HHI
        go_wp2
        go_roundw
        case rel => exact ⟨i, m, rfl, rfl, by omega, by omega, H1, HHI2, HB2⟩
        case measure => simp [intOf]; omega
    · obtain rfl : i = j := by omega
      by_cases hil : i < l.length
      · obtain ⟨b, off, ea, hbb, hcs⟩ := (HR.out.below hbw).get (by omega)
        have x0 := hcs i hil 0 (by omega)
        have x1 := hcs i hil 1 (by omega)
        have x2 := hcs i hil 2 (by omega)
        simp only [ePt, List.getElem?_cons_zero, List.getElem?_cons_succ, Nat.add_zero] at x0 x1 x2
        have x0 := cell_belowW x0
        have x1 := cell_belowW x1
        have x2 := cell_belowW x2
        have HCC : Hid (∀ p : BelowW wr, Calls Tryz.prog 45 #[vPt l[i].1 l[i].2.1 l[i].2.2, vPt px py pi] p.W fun e w' => e = .returned (.int .i64 (ordX l[i] (px, py, pi))) ∧ Below p.W.heap.size p.W w') := fun p => HC.out l[i] p.W
        have EA := Lib.hid ea
        obtain ⟨o, ho⟩ : ∃ o, o = ordX l[i] (px, py, pi) := ⟨_, rfl⟩
        have HO : Hid (decide (∃ h : i < l.length, ordX l[i] (px, py, pi) = 0) = (o == 0)) := by
          show _ = _
          rw [ho, Bool.eq_iff_iff]
          simp [hil]
        rw [← ho] at HCC
        have hd : decide (i < l.length) = true := by simpa using hil
        clear hcs ea ho hpc
        generalize l[i] = q at *
        obtain ⟨qx, qy, qi⟩ := q
        simp only at x0 x1 x2 HCC
        obtain rfl := EA.out
        clear EA
        go_upto_region 8 with fail
        refine wp_region_below (by kernel_rfl) (by kernel_rfl) ?_
        repeat (quiet_step ((go_at_call 45; exact calls_below (HCC.out _))))
        refine wpQuiet_nil ?_
        intro w2 hw'
        have hb2 : Below wr.heap.size wr w2 := by obtain ⟨p, rfl⟩ := hw'; exact p.h
        have HB2 : Hid (Below W.heap.size W w2) := hbw.trans (hb2.mono hbw.size)
        clear hw' k0 k1 k2 x0 x1 x2 hb2 HCC
        go_wp2
        go_ret2
        exact ⟨i, by rw [HO.out]; rfl, by omega, H1.out, (fun t h h2 h3 => absurd (H2.out t h h2) (by omega)), HB2.out⟩
      · obtain rfl : i = l.length := by omega
        have hbb := Lib.hid hbw
        clear k0 k1 k2
        go_upto_region 8 with fail
        go_quiet (fail)
        go_wp2
        go_ret2
        exact ⟨l.length, by simp, Nat.le_refl _, H1.out, fun t h h2 => absurd h (by omega), hbb.out.trans (Below.drewAny _ _)⟩
end Go.Proofs.YtggfdlanobndjaaGreat

/- slices.Delete of one element, of a row that the call owns; slices.Index at uint32. -/
namespace Go.Proofs.YtggfdlanobndjaaGreat
open Go.RowKit Go.Sort Go.Shelf Go.Lib Go.Maps
set_option linter.unusedSimpArgs false
set_option linter.unusedVariables false

theorem del_row {α : Type} [Inhabited α] {enc : α → Value} {w : World} {base g cap : Nat} {e : TypeId} {l : List α} {i : Nat} {zr : α} (h : w.ownsRow base e 1 (.slice (some ⟨g, 0, none⟩) l.length cap) l.length (l.map enc)) (hi : i < l.length) (q : Nat) :
    (putRow enc (Sort.ahead w q) g 0 (l.toArray.toList.take i ++ l.toArray.toList.drop (i + 1) ++ List.replicate (i + 1 - i) zr).toArray).ownsRow base e 1 (.slice (some ⟨g, 0, none⟩) (l.length - 1) cap) (l.length - 1) ((l.eraseIdx i).map enc) ∧
    KpS (fun k => k = g) w (putRow enc (Sort.ahead w q) g 0 (l.toArray.toList.take i ++ l.toArray.toList.drop (i + 1) ++ List.replicate (i + 1 - i) zr).toArray) := by
  rcases h.2 with ⟨h1, h0⟩ | ⟨g', cap', cur, h1, hg, hh, hc, hm, hs, ht⟩
  · cases h1
  · injection h1 with e1 e2 e3
    injection e1 with e1
    injection e1 with e1 _ _
    subst e1 e3
    have hl : (l.take i ++ l.drop (i + 1) ++ [zr]).length = l.length := by simp; omega
    have ht' : cur.toList.take l.length = l.map enc := by rwa [Nat.mul_one] at ht
    obtain ⟨cur', -, -, -, h9⟩ := owns_putRow (l := l) (l' := l.take i ++ l.drop (i + 1) ++ [zr]) hg hh (by omega) hm (by omega) hl q #[]
    rw [Sort.grow_empty] at h9
    have e9 : (l.toArray.toList.take i ++ l.toArray.toList.drop (i + 1) ++ List.replicate (i + 1 - i) zr) = l.take i ++ l.drop (i + 1) ++ [zr] := by
      rw [show i + 1 - i = 1 by omega]
      simp
    rw [e9]
    constructor
    · rw [hl] at h9
      have h8 := ownsRow_take (m := l.length - 1) h9 (by omega)
      have e8 : ((l.take i ++ l.drop (i + 1) ++ [zr]).map enc).take ((l.length - 1) * 1) = (l.eraseIdx i).map enc := by
        rw [Nat.mul_one, ← List.map_take, List.take_append_of_le_length (by simp; omega), List.take_of_length_le (by simp; omega), List.eraseIdx_eq_take_drop_succ]
      rw [e8] at h8
      exact h8
    · refine ⟨rfl, rfl, rfl, ?_, fun k hk hn => ?_⟩
      · show w.heap.size ≤ (w.heap.modify g _).size
        simp
      · show (w.heap.modify g _)[k]? = _
        rw [Array.getElem?_modify, if_neg (Ne.symm hn)]

theorem delU32 {w : World} {base g cap : Nat} {l : List Int} {i : Nat} (h : w.ownsRow base 32 1 (.slice (some ⟨g, 0, none⟩) l.length cap) l.length (l.map (Value.int .u32))) (hi : i < l.length) :
    Calls Tryz.prog 68 #[.slice (some ⟨g, 0, none⟩) l.length cap, .int .i64 i, .int .i64 (i + 1 : Nat)] w fun e w' => e = .returned (.slice (some ⟨g, 0, none⟩) (l.length - 1) cap) ∧ w'.ownsRow base 32 1 (.slice (some ⟨g, 0, none⟩) (l.length - 1) cap) (l.length - 1) ((l.eraseIdx i).map (Value.int .u32)) ∧ KpS (fun k => k = g) w w' := by
  obtain ⟨i0, hi0, hz1⟩ : ∃ i0, Tryz.prog.info? 32 = some i0 ∧ i0.size = 1 := by
    have hh : (Tryz.prog.info? 32).map (fun i => i.size) = some 1 := by kernel_rfl
    cases hq : Tryz.prog.info? 32 with
    | none => rw [hq] at hh; cases hh
    | some i => rw [hq] at hh; injection hh with hh; exact ⟨i, rfl, hh⟩
  have hcap : l.length ≤ cap ∧ cap ≤ 9223372036854775807 := by
    rcases h.2 with ⟨h1, h0⟩ | ⟨g', cap', cur, h1, hg, hh, hc, hm, hs, ht⟩
    · cases h1
    · injection h1 with e1 e2 e3
      subst e3
      unfold maxLen at hm
      omega
  have hH : Holds (Value.int .u32) w g 0 l.toArray := by
    rcases h.2 with ⟨h1, h0⟩ | ⟨g', cap', cur, h1, hg, hh, hc, hm, hs, ht⟩
    · cases h1
    · injection h1 with e1 e2 e3
      injection e1 with e1
      injection e1 with e1 _ _
      subst e1
      rw [Nat.mul_one] at ht
      exact holds_of_block hh ht
  have hc := AnyE.slices_Delete Tryz.delU32 (Value.int .u32) (fun _ => rfl) 0 (fun w => Tryz.zeroValue32 w) i0 hi0 hz1 g 0 cap i (i + 1) l.toArray w hH (by simpa using hcap.1) hcap.2 (by omega) (by simp; omega)
  change Calls Tryz.prog 68 _ _ _ at hc
  rw [show l.toArray.size = l.length by simp] at hc
  refine hc.mono ?_
  rintro e w' ⟨rfl, q, rfl⟩
  obtain ⟨h8, h9⟩ := del_row (zr := (0 : Int)) h hi q
  exact ⟨by rw [show i + 1 - i = 1 by omega], h8, h9⟩

theorem delI64 {w : World} {base g cap : Nat} {l : List Int} {i : Nat} (h : w.ownsRow base 2 1 (.slice (some ⟨g, 0, none⟩) l.length cap) l.length (l.map (Value.int .i64))) (hi : i < l.length) :
    Calls Tryz.prog 67 #[.slice (some ⟨g, 0, none⟩) l.length cap, .int .i64 i, .int .i64 (i + 1 : Nat)] w fun e w' => e = .returned (.slice (some ⟨g, 0, none⟩) (l.length - 1) cap) ∧ w'.ownsRow base 2 1 (.slice (some ⟨g, 0, none⟩) (l.length - 1) cap) (l.length - 1) ((l.eraseIdx i).map (Value.int .i64)) ∧ KpS (fun k => k = g) w w' := by
  obtain ⟨i0, hi0, hz1⟩ : ∃ i0, Tryz.prog.info? 2 = some i0 ∧ i0.size = 1 := by
    have hh : (Tryz.prog.info? 2).map (fun i => i.size) = some 1 := by kernel_rfl
    cases hq : Tryz.prog.info? 2 with
    | none => rw [hq] at hh; cases hh
    | some i => rw [hq] at hh; injection hh with hh; exact ⟨i, rfl, hh⟩
  have hcap : l.length ≤ cap ∧ cap ≤ 9223372036854775807 := by
    rcases h.2 with ⟨h1, h0⟩ | ⟨g', cap', cur, h1, hg, hh, hc, hm, hs, ht⟩
    · cases h1
    · injection h1 with e1 e2 e3
      subst e3
      unfold maxLen at hm
      omega
  have hH : Holds (Value.int .i64) w g 0 l.toArray := by
    rcases h.2 with ⟨h1, h0⟩ | ⟨g', cap', cur, h1, hg, hh, hc, hm, hs, ht⟩
    · cases h1
    · injection h1 with e1 e2 e3
      injection e1 with e1
      injection e1 with e1 _ _
      subst e1
      rw [Nat.mul_one] at ht
      exact holds_of_block hh ht
  have hc := AnyE.slices_Delete Tryz.delI64 (Value.int .i64) (fun _ => rfl) 0 (fun w => Tryz.zeroValue2 w) i0 hi0 hz1 g 0 cap i (i + 1) l.toArray w hH (by simpa using hcap.1) hcap.2 (by omega) (by simp; omega)
  change Calls Tryz.prog 67 _ _ _ at hc
  rw [show l.toArray.size = l.length by simp] at hc
  refine hc.mono ?_
  rintro e w' ⟨rfl, q, rfl⟩
  obtain ⟨h8, h9⟩ := del_row (zr := (0 : Int)) h hi q
  exact ⟨by rw [show i + 1 - i = 1 by omega], h8, h9⟩

theorem delInt {w : World} {base g cap : Nat} {l : List Int} {i : Nat} (h : w.ownsRow base 3 1 (.slice (some ⟨g, 0, none⟩) l.length cap) l.length (l.map (Value.int .i64))) (hi : i < l.length) :
    Calls Tryz.prog 69 #[.slice (some ⟨g, 0, none⟩) l.length cap, .int .i64 i, .int .i64 (i + 1 : Nat)] w fun e w' => e = .returned (.slice (some ⟨g, 0, none⟩) (l.length - 1) cap) ∧ w'.ownsRow base 3 1 (.slice (some ⟨g, 0, none⟩) (l.length - 1) cap) (l.length - 1) ((l.eraseIdx i).map (Value.int .i64)) ∧ KpS (fun k => k = g) w w' := by
  obtain ⟨i0, hi0, hz1⟩ : ∃ i0, Tryz.prog.info? 3 = some i0 ∧ i0.size = 1 := by
    have hh : (Tryz.prog.info? 3).map (fun i => i.size) = some 1 := by kernel_rfl
    cases hq : Tryz.prog.info? 3 with
    | none => rw [hq] at hh; cases hh
    | some i => rw [hq] at hh; injection hh with hh; exact ⟨i, rfl, hh⟩
  have hcap : l.length ≤ cap ∧ cap ≤ 9223372036854775807 := by
    rcases h.2 with ⟨h1, h0⟩ | ⟨g', cap', cur, h1, hg, hh, hc, hm, hs, ht⟩
    · cases h1
    · injection h1 with e1 e2 e3
      subst e3
      unfold maxLen at hm
      omega
  have hH : Holds (Value.int .i64) w g 0 l.toArray := by
    rcases h.2 with ⟨h1, h0⟩ | ⟨g', cap', cur, h1, hg, hh, hc, hm, hs, ht⟩
    · cases h1
    · injection h1 with e1 e2 e3
      injection e1 with e1
      injection e1 with e1 _ _
      subst e1
      rw [Nat.mul_one] at ht
      exact holds_of_block hh ht
  have hc := AnyE.slices_Delete Tryz.delInt (Value.int .i64) (fun _ => rfl) 0 (fun w => Tryz.zeroValue3 w) i0 hi0 hz1 g 0 cap i (i + 1) l.toArray w hH (by simpa using hcap.1) hcap.2 (by omega) (by simp; omega)
  change Calls Tryz.prog 69 _ _ _ at hc
  rw [show l.toArray.size = l.length by simp] at hc
  refine hc.mono ?_
  rintro e w' ⟨rfl, q, rfl⟩
  obtain ⟨h8, h9⟩ := del_row (zr := (0 : Int)) h hi q
  exact ⟨by rw [show i + 1 - i = 1 by omega], h8, h9⟩

set_option maxRecDepth 100000 in
set_option maxHeartbeats 1000000 in
theorem index32 (a : Option Addr) (l : List Int) (n c : Nat) (x : Int) (w : World) (hn : l.length = n) (h : Rd (.int .u32) w a l) (hl : n ≤ 1000000) (hx : x ∈ l) :
    Calls Tryz.prog 66 #[.slice a n c, .int .u32 x] w fun e w' => (∃ i : Nat, e = .returned (.int .i64 i) ∧ ∃ h : i < l.length, l[i] = x) ∧ w' = w := by
  subst hn
  have HR := Lib.hid h
  have HX := Lib.hid hx
  clear h hx
  go_enter Tryz.func66, Tryz.ntmps66
  go_wp2
  go_loopg [8] l.length (fun kx s8 wr => ∃ j : Nat, s8 = .int .i64 j ∧ j ≤ l.length ∧ l.length - j ≤ kx ∧ wr = w ∧ Hid (∀ t (h : t < l.length), t < j → l[t] ≠ x))
  case atStart => exact ⟨0, rfl, Nat.zero_le _, by omega, rfl, fun t h h2 => absurd h2 (Nat.not_lt_zero _)⟩
  case round =>
    obtain ⟨j, rfl, hj, hkx, rfl, H1⟩ := hrel
    by_cases hjl : j < l.length
    · obtain ⟨b, off, ea, hb, hc⟩ := HR.out.get (by omega)
      have x0 := hc j hjl
      have EA := Lib.hid ea
      obtain ⟨y, hy⟩ : ∃ y, y = l[j] := ⟨_, rfl⟩
      rw [← hy] at x0
      have HY := Lib.hid hy
      clear hc ea hy
      obtain rfl := EA.out
      clear EA
      by_cases hxy : x = y
      · have d1 : (x == y) = true := by simp [hxy]
        have d2 : decide (x = y) = true := by simp [hxy]
        have HXY := Lib.hid hxy
        clear hxy
        go_wp2
        go_ret
        exact ⟨⟨j, rfl, hjl, by rw [← HY.out, HXY.out]⟩, rfl⟩
      · have d1 : (x == y) = false := by simp [hxy]
        have d2 : decide (x = y) = false := by simp [hxy]
        have H2 : Hid (∀ t (h : t < l.length), t < j + 1 → l[t] ≠ x) := fun t h h2 => by
          by_cases e : t = j
          · subst e; rw [← HY.out]; exact fun e => hxy e.symm
          · exact H1.out t h (by omega)
        clear hxy
        go_wp2
        go_roundg (l.length - (j + 1))
        case measure => omega
        case rel => exact ⟨j + 1, by go_num, by omega, Nat.le_refl _, rfl, H2⟩
    · obtain ⟨t, ht, e⟩ := List.getElem_of_mem HX.out
      exact absurd e (H1.out t ht (by omega))
end Go.Proofs.YtggfdlanobndjaaGreat

/- cascade.Drop. -/
namespace Go.Proofs.YtggfdlanobndjaaGreat
open Go.RowKit Go.Sort Go.Shelf Go.Lib Go.Maps
attribute [local irreducible] wpQuiet
attribute [local go_sem] Oper.still1
set_option linter.unusedSimpArgs false
set_option linter.unusedVariables false

/-- where a point stands, or would stand -/
def posX (R : List Pt) (p : Pt) : Nat := R.countP fun q => decide (ordX q p < 0)
def fndX (R : List Pt) (p : Pt) : Bool := decide (∃ h : posX R p < R.length, ordX R[posX R p] p = 0)
theorem bsfX1 (a : Option Addr) (l : List Pt) (n cp : Nat) (p : Pt) (W : World) (hn : l.length = n) (hl : n ≤ 1000000) (hr : RdK ePt 3 W a l) (hs : l.Pairwise ltX) :
    Calls Tryz.prog 53 #[.slice a n cp, vPt p.1 p.2.1 p.2.2, .func (.func 45) #[] #[]] W fun e w' => e = .returned (.tuple #[.int .i64 (posX l p), .bool (fndX l p)]) ∧ Below W.heap.size W w' :=
  (bsfX a l n cp p W hn hl hr hs).mono fun e w' ⟨k, he, hk, h1, h2, hb⟩ => by
    have e1 : k = posX l p := count_cut l k hk (fun t h h9 => by simpa using h1 t h h9) (fun t h h9 => by simpa using h2 t h h9)
    subst e1
    exact ⟨he, hb⟩
theorem fndX_at {R : List Pt} (hs : R.Pairwise ltX) {x : Nat} (hx : x < R.length) : posX R R[x] = x ∧ fndX R R[x] = true := by
  have h0 : x = posX R R[x] := count_cut R x (Nat.le_of_lt hx) (fun t h h9 => by
    have := List.pairwise_iff_getElem.1 hs t x h hx h9
    simpa [ordX_lt] using this) (fun t h h9 => by
    simp only [decide_eq_false_iff_not, ordX_lt]
    by_cases e : t = x
    · subst e; exact ltX_irr _
    · intro h8
      have := List.pairwise_iff_getElem.1 hs x t hx h (by omega)
      exact ltX_irr _ (ltX_trans this h8))
  refine ⟨h0.symm, ?_⟩
  unfold fndX
  rw [decide_eq_true_eq]
  refine ⟨by omega, ?_⟩
  have e : R[posX R R[x]]'(by omega) = R[x] := by congr 1; exact h0.symm
  rw [e, ordX_eq]
  exact ⟨rfl, rfl⟩

set_option maxRecDepth 100000 in
set_option maxHeartbeats 4000000 in
theorem casc_drop_no {w : World} {lo hi tb fb : Nat} {R : List Pt} {gone : List Bool} {YS : List Nat} {V : CscV} (hA : CscAt w lo hi tb fb R gone YS V) (hW : CscWF R gone YS) (hR : R.length ≤ 20000) (p : Pt) (hno : ∀ x (h : x < R.length), R[x] = p → gone[x]? ≠ some false) :
    Calls Tryz.prog 28 #[.pointer (some ⟨tb, 0, none⟩), vPt p.1 p.2.1 p.2.2] w fun e w' => e = .returned (.bool false) ∧ Below w.heap.size w w' := by
  have hb := hA.blk
  have htl : tb < w.heap.size := Nat.lt_of_lt_of_le hA.tbr.2.1 hA.tbr.2.2.2.2
  obtain ⟨ra, rc, er, -, -, hrd⟩ := RdK.of_owns ePt_len (by decide) hA.row
  have hg0 := hA.gon
  obtain ⟨ga, gc, eg⟩ := rowV hA.gon
  rw [er, eg] at hb
  have CB := Lib.hid (fun W (hb : Below w.heap.size w W) => bsfX1 ra R R.length rc p W rfl (by omega) (hrd.below hb) hW.rowX)
  have HRD := Lib.hid hrd
  have HG := Lib.hid hA.gon
  have HNO := Lib.hid hno
  have HGL := Lib.hid hW.glen
  have HEG := Lib.hid eg
  obtain ⟨px, py, pi⟩ := p
  obtain ⟨n, hn⟩ : ∃ n, n = R.length := ⟨_, rfl⟩
  rw [← hn] at hR hb CB
  have HN := Lib.hid hn
  have HB := Lib.hid hb
  clear hA hW hrd hno hg0 hb er eg hn
  go_enter Tryz.func28, Tryz.ntmps28
  go_wp2_with fail
  obtain ⟨w1, ew1⟩ : ∃ w1, w1 = w.alloc (.cells #[.int .i64 px, .int .i64 py, .int .u32 pi] 34) := ⟨_, rfl⟩
  have hb1 : Below w.heap.size w w1 := by rw [ew1]; exact (Below.refl _ _).alloc (Nat.le_refl _) _
  have hx1 : w1.heap[w.heap.size]? = some (.cells #[.int .i64 px, .int .i64 py, .int .u32 pi] 34 (0, 0)) := by rw [ew1]; exact lit0 w _
  have ht1 := (hb1.block tb htl).trans HB.out
  rw [← ew1]
  clear ew1
  have c3 : w1.cell? ⟨tb, 3, none⟩ = some (.pointer (some ⟨fb, 0, none⟩)) := by simp [World.cell?, ht1]
  refine (casc_none tb fb w1 c3).mono ?_
  rintro e w' ⟨rfl, ew'⟩
  subst w'
  go_upto_region 3 with fail
  have k0 := cell_belowW (w := w1) (ad := ⟨tb, 0, none⟩) (v := .slice ra n rc) (by simp [World.cell?, ht1])
  have k1 := cell_belowW (w := w1) (ad := ⟨w.heap.size, 0, none⟩) (v := .int .i64 px) (by simp [World.cell?, hx1])
  have k2 := cell_belowW (w := w1) (ad := ⟨w.heap.size, 1, none⟩) (v := .int .i64 py) (by simp [World.cell?, hx1])
  have k3 := cell_belowW (w := w1) (ad := ⟨w.heap.size, 2, none⟩) (v := .int .u32 pi) (by simp [World.cell?, hx1])
  have HC3 : Hid (∀ p : BelowW w1, Calls Tryz.prog 53 #[.slice ra n rc, vPt px py pi, .func (.func 45) #[] #[]] p.W fun e w' => e = .returned (.tuple #[.int .i64 (posX R (px, py, pi)), .bool (fndX R (px, py, pi))]) ∧ Below p.W.heap.size p.W w') := fun p => CB.out p.W (hb1.trans (p.h.mono hb1.size))
  refine wp_region_below (by kernel_rfl) (by kernel_rfl) ?_
  repeat (quiet_step ((go_at_call 53; exact calls_below (HC3.out _))))
  refine wpQuiet_nil ?_
  intro w2 hw'
  have hb2 : Below w1.heap.size w1 w2 := by obtain ⟨p, rfl⟩ := hw'; exact p.h
  clear hw' HC3 k0 k1 k2 k3 CB c3
  have ht2 := (hb2.block tb (Nat.lt_of_lt_of_le htl hb1.size)).trans ht1
  have hx2 := (hb2.block w.heap.size (Array.getElem?_eq_some_iff.1 hx1).1).trans hx1
  have hB2 : Below w.heap.size w w2 := hb1.trans (hb2.mono hb1.size)
  have HB2 := Lib.hid hB2
  have c0 : w2.cell? ⟨tb, 0, none⟩ = some (.slice ra n rc) := by simp [World.cell?, ht2]
  have c2 : w2.cell? ⟨tb, 2, none⟩ = some (.slice ga n gc) := by simp [World.cell?, ht2]
  have x0 : w2.cell? ⟨w.heap.size, 0, none⟩ = some (.int .i64 px) := by simp [World.cell?, hx2]
  have x1 : w2.cell? ⟨w.heap.size, 1, none⟩ = some (.int .i64 py) := by simp [World.cell?, hx2]
  have x2 : w2.cell? ⟨w.heap.size, 2, none⟩ = some (.int .u32 pi) := by simp [World.cell?, hx2]
  clear hb1 hb2 ht1 hx1 ht2 hx2
  cases hf : fndX R (px, py, pi) with
  | false =>
    go_wp2_with fail
    go_upto_region 4 with fail
    go_quiet (fail)
    go_wp2
    go_ret
    exact ⟨rfl, HB2.out.trans (Below.drewAny _ _)⟩
  | true =>
    obtain ⟨hkl, ho⟩ := of_decide_eq_true hf
    rw [ordX_eq] at ho
    generalize posX R (px, py, pi) = k at *
    have hk2 : k < n := by rw [HN.out]; exact hkl
    obtain ⟨b, off, ea, hbb, hcs⟩ := (HRD.out.below hB2).get (by omega)
    have r0 := hcs k hkl 0 (by omega)
    have r1 := hcs k hkl 1 (by omega)
    have r2 := hcs k hkl 2 (by omega)
    simp only [ePt, List.getElem?_cons_zero, List.getElem?_cons_succ, Nat.add_zero] at r0 r1 r2
    have hgrow := ownsRow_below HG.out hB2
    rw [HEG.out] at hgrow
    obtain ⟨gg, gc', eg2, _, _⟩ := ownRow_at hgrow (by have := HN.out; omega)
    injection eg2 with eg2 eg3 eg4
    subst eg2
    have hnn := HN.out
    obtain ⟨gb, hgb⟩ : ∃ gb, gone[k]? = some gb := ⟨_, List.getElem?_eq_getElem (by have := HGL.out; omega)⟩
    have g0 := hgrow.cellAt k (by omega)
    rw [List.getElem?_map, hgb] at g0
    simp only [Option.map_some] at g0
    have HKK : Hid (R[k] = (px, py, pi) → gb = true) := fun he => by
      have := HNO.out k hkl he
      rw [hgb] at this
      cases gb with
      | true => rfl
      | false => exact absurd rfl this
    subst ea
    clear hcs hgrow hgb hB2 eg3 eg4 hnn
    generalize R[k] = q at *
    obtain ⟨qx, qy, qi⟩ := q
    simp only at r0 r1 r2 ho
    obtain ⟨ho1, ho2⟩ := ho
    subst ho1 ho2
    clear hf
    go_upto_region 4 with fail
    by_cases hqy : qy = py
    · subst hqy
      obtain rfl : gb = true := HKK.out rfl
      go_quiet (fail)
      go_wp2
      go_ret
      exact ⟨rfl, HB2.out.trans (Below.drewAny _ _)⟩
    · have d1 : (qy == py) = false := by simp [hqy]
      have d2 : decide (qy = py) = false := by simp [hqy]
      go_quiet (fail)
      go_wp2
      go_ret
      exact ⟨rfl, HB2.out.trans (Below.drewAny _ _)⟩
end Go.Proofs.YtggfdlanobndjaaGreat

/- cascade.Drop: the tree's rows by index. No function of the program is walked here. -/
namespace Go.Proofs.YtggfdlanobndjaaGreat
open Go.RowKit Go.Sort Go.Shelf Go.Lib Go.Maps
set_option linter.unusedSimpArgs false
set_option linter.unusedVariables false

def treeAt (n k : Nat) : FT := (((mkT 0 n).subs 0).getD k (.leaf 0, 0)).1
theorem treeAt_at {n : Nat} {t : FT} {s : Nat} (h : FT.At (nds n) t s) : treeAt n (t.root s) = t := by
  have hn := nds_pos h
  have hl := h.lt
  rw [nds_len] at hl
  have hl2 : t.root s < ((mkT 0 n).subs 0).length := by rw [FT.subs_len, mkT_size 0 n hn]; exact hl
  have h1 := FT.subs_root (mkT 0 n) 0 _ hl2
  have h2 := FT.subs_at (mkT 0 n) 0 (nds_eq hn ▸ nds_at n hn) _ (List.getElem_mem hl2)
  obtain ⟨e1, e2⟩ := FT.At.unique (nds_eq hn ▸ h) h2 (by rw [h1]; omega)
  unfold treeAt
  rw [List.getD_eq_getElem?_getD, List.getElem?_eq_getElem hl2]
  exact e1.symm

/-- a node's list; its counts -/
def nodeL (n : Nat) (YS : List Nat) (k : Nat) : List Nat := nl YS (treeAt n k)
def lefL (n : Nat) (YS : List Nat) (k : Nat) : List Int := match treeAt n k with
  | .leaf _ => []
  | .node l r => lf l.hi (nl YS (.node l r))
theorem lefL_at {n : Nat} {l r : FT} {s : Nat} (h : FT.At (nds n) (.node l r) s) (YS : List Nat) : lefL n YS ((FT.node l r).root s) = lf l.hi (nl YS (.node l r)) := by
  unfold lefL
  rw [treeAt_at h]

section
variable {w w' : World} {lo hi tb fb : Nat} {R : List Pt} {gone : List Bool} {YS : List Nat} {V : CscV}
theorem CscAt.toM (h : CscAt w lo hi tb fb R gone YS V) : CscM w lo hi tb fb R gone YS.length YS (nodeL R.length YS) (lefL R.length YS) V :=
  ⟨h.blk, h.tbr, h.row, h.xs, h.gon, h.frm, h.nod, h.lst, h.ys, fun k hk => by
    obtain ⟨t, s, ha, rfl⟩ := nds_get hk
    unfold nodeL
    rw [treeAt_at ha]
    exact h.nam t s ha, fun l r s ha => by rw [lefL_at ha]; exact h.lef l r s ha, h.sli, h.top, h.topL, h.neX, h.neN, h.neL⟩
theorem CscM.toAt {nc : Nat → List Nat} {lc : Nat → List Int} (h : CscM w lo hi tb fb R gone YS.length YS nc lc V) (h1 : ∀ k, k < (nds R.length).length → nc k = nodeL R.length YS k) (h2 : ∀ l r s, FT.At (nds R.length) (.node l r) s → lc ((FT.node l r).root s) = lefL R.length YS ((FT.node l r).root s)) : CscAt w lo hi tb fb R gone YS V :=
  ⟨h.blk, h.tbr, h.row, h.xs, h.gon, h.frm, h.nod, h.lst, h.ys, fun t s ha => by
    have h9 := h.nam _ ha.lt
    rw [h1 _ ha.lt, nodeL, treeAt_at ha] at h9
    exact h9, fun l r s ha => by
    have h9 := h.lef l r s ha
    rw [h2 l r s ha, lefL_at ha] at h9
    exact h9, h.sli, h.top, h.topL, h.neX, h.neN, h.neL⟩
end

/-- which YS a node's rows are of, once the nodes of P are done -/
def ysFor (YS : List Nat) (x : Nat) (P : List Nat) (k : Nat) : List Nat := if k ∈ P then outX YS x else YS
theorem ysFor_nil (YS : List Nat) (x k : Nat) : ysFor YS x [] k = YS := by simp [ysFor]
/-- all is done when the whole path is -/
theorem ysFor_path {n x : Nat} (hx : x < n) (YS : List Nat) {k : Nat} (hk : k < (nds n).length) : nodeL n (ysFor YS x ((mkT 0 n).path 0 x) k) k = nodeL n (outX YS x) k ∧ lefL n (ysFor YS x ((mkT 0 n).path 0 x) k) k = lefL n (outX YS x) k := by
  have hn : 0 < n := by omega
  obtain ⟨t, s, ha, rfl⟩ := nds_get hk
  unfold ysFor
  by_cases hm : t.root s ∈ (mkT 0 n).path 0 x
  · rw [if_pos hm]; exact ⟨rfl, rfl⟩
  · rw [if_neg hm]
    have hno : ¬ (t.lo ≤ x ∧ x < t.hi) := fun ⟨a, b⟩ => hm (FT.path_mem _ 0 x (mkT_spec 0 n hn).1 _ (FT.at_mem (nds_eq hn ▸ ha)) a b)
    unfold nodeL lefL
    rw [treeAt_at ha]
    refine ⟨(nl_out_other hno).symm, ?_⟩
    cases t with
    | leaf a => rfl
    | node l r =>
      show lf _ _ = lf _ _
      rw [nl_out_other hno]

end Go.Proofs.YtggfdlanobndjaaGreat

/- cascade.Drop of a point that is there. -/
namespace Go.Proofs.YtggfdlanobndjaaGreat
open Go.RowKit Go.Sort Go.Shelf Go.Lib Go.Maps
attribute [local irreducible] wpQuiet
attribute [local go_sem] Oper.still1
set_option linter.unusedSimpArgs false
set_option linter.unusedVariables false

def DropP (w : World) (lo hi tb fb : Nat) (R : List Pt) (gone : List Bool) (YS : List Nat) (x : Nat) (e : Ending) (w' : World) : Prop :=
  e = .returned (.bool true) ∧ ∃ V', CscAt w' lo hi tb fb R (gone.set x true) (outX YS x) V' ∧ KpS (fun k => lo ≤ k ∧ k < hi) w w'

theorem eraseIdx_mapF {α β : Type} (f : α → β) : ∀ (l : List α) (i : Nat), (l.map f).eraseIdx i = (l.eraseIdx i).map f
  | [], i => by simp
  | a :: l, 0 => by simp
  | a :: l, i + 1 => by simp [eraseIdx_mapF f l i]

theorem lf_bd {m : Nat} {L : List Nat} {y : Int} (h : y ∈ lf m L) : 0 ≤ y ∧ y ≤ L.length := by
  unfold lf at h
  obtain ⟨j, hj, rfl⟩ := List.mem_map.1 h
  have h1 := List.countP_le_length (p := fun i => decide (i < m)) (l := L.take j)
  rw [List.length_take] at h1
  omega
theorem lfS_bd {m : Nat} {L : List Nat} {i : Nat} (hi : i < L.length) {j : Nat} (hj : j < L.length) : 0 ≤ (lfS m L i j)[j]'(by rw [lfS_len hi (by omega)]; exact hj) ∧ (lfS m L i j)[j]'(by rw [lfS_len hi (by omega)]; exact hj) ≤ L.length := by
  rw [lfS_get hi hj]
  exact lf_bd (List.mem_of_mem_eraseIdx (List.getElem_mem _))
theorem updA_updA {α : Type} (f : Nat → α) (k : Nat) (v v' : α) : updA (updA f k v) k v' = updA f k v' := by
  funext j; simp only [updA]; split <;> rfl

theorem outX_len {YS : List Nat} (hn : YS.Nodup) {x : Nat} (hx : x ∈ YS) : (outX YS x).length = YS.length - 1 := by
  obtain ⟨i, hi, e⟩ := List.getElem_of_mem hx
  unfold outX
  rw [← erase_filter hn hi e, List.length_eraseIdx, if_pos hi]

set_option maxRecDepth 100000 in
set_option maxHeartbeats 8000000 in
theorem casc_drop_yes {w : World} {lo hi tb fb : Nat} {R : List Pt} {gone : List Bool} {YS : List Nat} {V : CscV} (hA : CscAt w lo hi tb fb R gone YS V) (hW : CscWF R gone YS) (hR : R.length ≤ 20000) {x : Nat} (hx : x < R.length) (hgx : gone[x]? = some false) (p : Pt) (hp : R[x] = p) :
    Calls Tryz.prog 28 #[.pointer (some ⟨tb, 0, none⟩), vPt p.1 p.2.1 p.2.2] w (DropP w lo hi tb fb R gone YS x) := by
  have hb := hA.blk
  have htl : tb < w.heap.size := Nat.lt_of_lt_of_le hA.tbr.2.1 hA.tbr.2.2.2.2
  obtain ⟨ra, rc, er, -, -, hrd⟩ := RdK.of_owns ePt_len (by decide) hA.row
  obtain ⟨ga, gc, eg⟩ := rowV hA.gon
  have hM := hA.toM
  rw [er, eg] at hb
  have CB := Lib.hid (fun W (hb : Below w.heap.size w W) => bsfX1 ra R R.length rc p W rfl (by omega) (hrd.below hb) hW.rowX)
  have hfx := fndX_at hW.rowX hx
  rw [hp] at hfx
  have HRD := Lib.hid hrd
  have HEG := Lib.hid eg
  have HER := Lib.hid er
  obtain ⟨px, py, pi⟩ := p
  obtain ⟨n, hn⟩ : ∃ n, n = R.length := ⟨_, rfl⟩
  rw [← hn] at hR hb CB hx
  have HN := Lib.hid hn
  have HB := Lib.hid hb
  have HM := Lib.hid hM
  have HP := Lib.hid hp
  have HGX := Lib.hid hgx
  have HW := Lib.hid hW
  have htbr := hA.tbr
  rw [hfx.1, hfx.2] at CB
  clear hA hrd hb er eg hn hM hp hgx hW hfx
  go_enter Tryz.func28, Tryz.ntmps28
  go_wp2_with fail
  obtain ⟨pb, hpb⟩ : ∃ pb, pb = w.heap.size := ⟨_, rfl⟩
  obtain ⟨w1, ew1⟩ : ∃ w1, w1 = w.alloc (.cells #[.int .i64 px, .int .i64 py, .int .u32 pi] 34) := ⟨_, rfl⟩
  have hb1 : Below w.heap.size w w1 := by rw [ew1]; exact (Below.refl _ _).alloc (Nat.le_refl _) _
  have hx1 : w1.heap[pb]? = some (.cells #[.int .i64 px, .int .i64 py, .int .u32 pi] 34 (0, 0)) := by rw [ew1, hpb]; exact lit0 w _
  have ht1 := (hb1.block tb htl).trans HB.out
  rw [← ew1]
  clear ew1
  have c3 : w1.cell? ⟨tb, 3, none⟩ = some (.pointer (some ⟨fb, 0, none⟩)) := by simp [World.cell?, ht1]
  refine (casc_none tb fb w1 c3).mono ?_
  rintro e w' ⟨rfl, ew'⟩
  subst w'
  go_upto_region 3 with fail
  rw [← hpb]
  have hpb2 : hi ≤ pb := by rw [hpb]; exact htbr.2.2.2.2
  have HPB := Lib.hid hpb
  clear hpb
  have k0 := cell_belowW (w := w1) (ad := ⟨tb, 0, none⟩) (v := .slice ra n rc) (by simp [World.cell?, ht1])
  have k1 := cell_belowW (w := w1) (ad := ⟨pb, 0, none⟩) (v := .int .i64 px) (by simp [World.cell?, hx1])
  have k2 := cell_belowW (w := w1) (ad := ⟨pb, 1, none⟩) (v := .int .i64 py) (by simp [World.cell?, hx1])
  have k3 := cell_belowW (w := w1) (ad := ⟨pb, 2, none⟩) (v := .int .u32 pi) (by simp [World.cell?, hx1])
  have HC3 : Hid (∀ p : BelowW w1, Calls Tryz.prog 53 #[.slice ra n rc, vPt px py pi, .func (.func 45) #[] #[]] p.W fun e w' => e = .returned (.tuple #[.int .i64 x, .bool true]) ∧ Below p.W.heap.size p.W w') := fun p => CB.out p.W (hb1.trans (p.h.mono hb1.size))
  refine wp_region_below (by kernel_rfl) (by kernel_rfl) ?_
  repeat (quiet_step ((go_at_call 53; exact calls_below (HC3.out _))))
  refine wpQuiet_nil ?_
  intro w2 hw'
  have hb2 : Below w1.heap.size w1 w2 := by obtain ⟨p, rfl⟩ := hw'; exact p.h
  clear hw' HC3 k0 k1 k2 k3 CB c3
  have hx2 := (hb2.block pb (Array.getElem?_eq_some_iff.1 hx1).1).trans hx1
  have hB2 : Below w.heap.size w w2 := hb1.trans (hb2.mono hb1.size)
  have HM2 : Hid (CscM w2 lo hi tb fb R gone YS.length YS (nodeL R.length YS) (lefL R.length YS) V) := HM.out.below hB2 htbr.2.2.2.2
  have HB2 := Lib.hid hB2
  have HX2 := Lib.hid hx2
  have ht2 := HM2.out.blk
  have c0 : w2.cell? ⟨tb, 0, none⟩ = some (.slice ra n rc) := by simp [World.cell?, ht2]; rw [HER.out, HN.out]
  have hgrow := HM2.out.gon
  rw [HEG.out] at hgrow
  obtain ⟨gg, gc', eg2, _, _⟩ := ownRow_at hgrow (by have := HN.out; omega)
  injection eg2 with eg2 eg3 eg4
  subst eg2
  clear eg3 eg4
  have c2 : w2.cell? ⟨tb, 2, none⟩ = some (.slice (some ⟨gg, 0, none⟩) n gc) := by simp [World.cell?, ht2]; rw [HEG.out, HN.out]
  have x0 : w2.cell? ⟨pb, 0, none⟩ = some (.int .i64 px) := by simp [World.cell?, hx2]
  have x1 : w2.cell? ⟨pb, 1, none⟩ = some (.int .i64 py) := by simp [World.cell?, hx2]
  have x2 : w2.cell? ⟨pb, 2, none⟩ = some (.int .u32 pi) := by simp [World.cell?, hx2]
  have hxR : x < R.length := by rw [← HN.out]; exact hx
  obtain ⟨b, off, ea, hbb, hcs⟩ := (HRD.out.below hB2).get (by omega)
  have r0 := hcs x hxR 0 (by omega)
  have r1 := hcs x hxR 1 (by omega)
  have r2 := hcs x hxR 2 (by omega)
  rw [HP.out] at r0 r1 r2
  simp only [ePt, List.getElem?_cons_zero, List.getElem?_cons_succ, Nat.add_zero] at r0 r1 r2
  have g0 := hgrow.cellAt x (by omega)
  have z0 := hgrow.frozenAt x
  rw [List.getElem?_map, HGX.out] at g0
  simp only [Option.map_some] at g0
  subst ea
  clear hcs hgrow hB2 hb1 hb2 ht1 hx1 ht2 hx2 HM
  go_upto_region 4 with fail
  go_quiet (fail)
  go_upto_region 7 with fail
  obtain ⟨w3, ew3⟩ : ∃ w3, w3 = (w2.drewN nq).setCell ⟨gg, x, none⟩ (.bool true) := ⟨_, rfl⟩
  have HM3 : Hid (CscM w3 lo hi tb fb R (gone.set x true) YS.length YS (nodeL R.length YS) (lefL R.length YS) V) := by
    rw [ew3]
    exact CscM.setGone (HM2.out.below (Below.drewAny w2.heap.size nq) HM2.out.tbr.2.2.2.2) HEG.out x
  have hgg : lo ≤ gg ∧ gg < hi := ⟨(HM2.out.gon.lt gg (by rw [HEG.out]; rfl)).1, HM2.out.top V.gv (by simp) gg (by rw [HEG.out]; rfl)⟩
  have HK3 : Hid (KpS (fun k => lo ≤ k ∧ k < hi) w w3) := by
    rw [ew3]
    exact (((KpS.refl _ w).below HB2.out).below (Below.drewAny w2.heap.size nq)).set (a := ⟨gg, x, none⟩) _ (.inl hgg)
  have HX3 : Hid (w3.heap[pb]? = some (.cells #[.int .i64 px, .int .i64 py, .int .u32 pi] 34 (0, 0))) := by
    rw [ew3]
    exact (heap_setNe (show gg ≠ pb by omega)).trans HX2.out
  rw [← ew3]
  clear ew3 c0 c2 x0 x1 x2 r0 r1 r2 g0 z0 HB2 HX2 HM2 hgg hbb
  have hxY : x ∈ YS := (HW.out.live x).2 HGX.out
  have hYl := HW.out.len
  have hY0 : 0 < YS.length := List.length_pos_of_mem hxY
  have ht3 := HM3.out.blk
  have c7 : w3.cell? ⟨tb, 7, none⟩ = some (.int .i64 YS.length) := by simp [World.cell?, ht3]
  have z7 : w3.frozen? ⟨tb, 7, none⟩ = false := by simp [World.frozen?, ht3]
  obtain ⟨m, hm⟩ : ∃ m, m = YS.length - 1 := ⟨_, rfl⟩
  have hm2 : (YS.length : Int) - 1 = (m : Int) := by omega
  have HMX : Hid (m = (outX YS x).length) := by rw [hm]; exact (outX_len HW.out.nodup hxY).symm
  have hYb : YS.length ≤ 20000 := by rw [HN.out] at hR; omega
  have HYX := Lib.hid hxY
  clear hm hYl ht3 hxY
  go_upto_region 8 with fail
  obtain ⟨w4, ew4⟩ : ∃ w4, w4 = w3.setCell ⟨tb, 7, none⟩ (.int .i64 m) := ⟨_, rfl⟩
  have HM4 : Hid (CscM w4 lo hi tb fb R (gone.set x true) m YS (nodeL R.length YS) (lefL R.length YS) V) := by rw [ew4]; exact HM3.out.setCnt m
  have HK4 : Hid (KpS (fun k => lo ≤ k ∧ k < hi) w w4) := by rw [ew4]; exact HK3.out.set (a := ⟨tb, 7, none⟩) _ (.inl ⟨htbr.1, htbr.2.1⟩)
  have HX4 : Hid (w4.heap[pb]? = some (.cells #[.int .i64 px, .int .i64 py, .int .u32 pi] 34 (0, 0))) := by rw [ew4]; exact (heap_setNe (show tb ≠ pb by omega)).trans HX3.out
  rw [← ew4]
  clear ew4 c7 z7 HM3 HK3 HX3
  have ht4 := HM4.out.blk
  have c3 : w4.cell? ⟨tb, 3, none⟩ = some (.pointer (some ⟨fb, 0, none⟩)) := by simp [World.cell?, ht4]
  have CP := Lib.hid (frame_path lo fb n x V.fv (by omega) hx w4 (by rw [HN.out]; exact HM4.out.frm))
  clear ht4
  go_wp2_with fail
  refine CP.out.mono ?_
  rintro e w5 ⟨pv, rfl, hpv, hb5⟩
  have hs4 := HM4.out.tbr.2.2.2.2
  have HM5 : Hid (CscM w5 lo hi tb fb R (gone.set x true) m YS (nodeL R.length YS) (lefL R.length YS) V) := HM4.out.below hb5 hs4
  have HK5 : Hid (KpS (fun k => lo ≤ k ∧ k < hi) w w5) := HK4.out.below hb5
  have HX5 := Lib.hid ((hb5.block pb (Array.getElem?_eq_some_iff.1 HX4.out).1).trans HX4.out)
  have hp5 : w4.heap.size ≤ w5.heap.size := hb5.size
  have HPV := Lib.hid hpv
  have hpw4 : pb < w4.heap.size := (Array.getElem?_eq_some_iff.1 HX4.out).1
  clear c3 CP HM4 HK4 HX4 hb5
  obtain ⟨P, hPd⟩ : ∃ P, P = (mkT 0 n).path 0 x := ⟨_, rfl⟩
  rw [← hPd] at hpv HPV
  have hPl : P.length ≤ n + 1 := by
    have h1 := FT.path_len (mkT 0 n) 0 x
    have h2 := mkT_ht 0 n n (Nat.le_of_lt (Nat.lt_two_pow_self))
    rw [hPd]
    omega
  have HPD := Lib.hid hPd
  obtain ⟨pa, pc, rfl⟩ := rowV hpv
  clear hpv hPd
  go_wp2_with fail
  go_loopg [72] P.length (fun kx s72 wr => ∃ (j : Nat) (yy : List Nat) (nc : Nat → List Nat) (lc : Nat → List Int) (V : CscV), s72 = .int .i64 j ∧ j ≤ P.length ∧ P.length - j ≤ kx ∧
    Hid (CscM wr lo hi tb fb R (gone.set x true) m yy nc lc V) ∧ Hid (yy = if 0 < j then outX YS x else YS) ∧ Hid (∀ k, k < (nds R.length).length → nc k = nodeL n (ysFor YS x (P.take j) k) k) ∧ Hid (∀ l r s, FT.At (nds R.length) (.node l r) s → lc ((FT.node l r).root s) = lefL n (ysFor YS x (P.take j) ((FT.node l r).root s)) ((FT.node l r).root s)) ∧
    Hid (KpS (fun k => lo ≤ k ∧ k < hi) w5 wr))
  case atStart =>
    refine ⟨0, YS, _, _, V, rfl, Nat.zero_le _, by omega, HM5, rfl, ?_, ?_, KpS.refl _ _⟩
    · intro k hk
      rw [HN.out, List.take_zero, ysFor_nil]
    · intro l r s ha
      rw [HN.out, List.take_zero, ysFor_nil]
  case round =>
    obtain ⟨j, yy, nc, lc, V, rfl, hj, hkx, HMr, HYY, HNC, HLC, HKr⟩ := hrel
    by_cases hjP : j < P.length
    · have hn0 : 0 < n := by omega
      obtain ⟨hwT, hlT, hhT⟩ := mkT_spec 0 n hn0
      obtain ⟨k, hk⟩ : ∃ k, k = P[j] := ⟨_, rfl⟩
      have hkm : k ∈ (mkT 0 n).path 0 x := by rw [← HPD.out, hk]; exact List.getElem_mem _
      obtain ⟨⟨t, s⟩, hts0, hts, hxlo, hxhi⟩ := FT.mem_path (mkT 0 n) 0 x hwT (by omega) (by omega) k hkm
      simp only at hts hxlo hxhi
      have hT0 := nds_at n hn0
      rw [nds_eq hn0] at hT0
      have ha : FT.At (nds n) t s := by rw [nds_eq hn0]; exact FT.subs_at _ 0 hT0 _ hts0
      have hwt : t.wf := FT.subs_wf _ 0 hwT _ hts0
      have hkl : k < (nds n).length := hts ▸ ha.lt
      have hpd : P.Pairwise (· > ·) := by rw [HPD.out]; exact FT.path_down _ 0 x hwT (by omega) (by omega)
      have hkn : k ∉ P.take j := fun h => by
        obtain ⟨q, hq, e⟩ := List.getElem_of_mem h
        rw [List.getElem_take] at e
        rw [List.length_take] at hq
        have := List.pairwise_iff_getElem.1 hpd q j (by omega) hjP (by omega)
        omega
      have hroot : (k = 2 * n - 2) ↔ j = 0 := by
        obtain ⟨Q, hQ⟩ := FT.path_head (mkT 0 n) 0 x
        rw [nds_root hn0] at hQ
        have h0 : P[0]'(by omega) = 2 * n - 2 := by
          have : P = (2 * n - 2) :: Q := by rw [HPD.out, hQ]
          simp only [this, List.getElem_cons_zero]
        constructor
        · intro h
          by_cases e : j = 0
          · exact e
          · have := List.pairwise_iff_getElem.1 hpd 0 j (by omega) hjP (by omega)
            omega
        · intro h
          subst h
          rw [hk, h0]
      have hnck : nc k = nl YS t := by
        rw [HNC.out k (by rw [← HN.out]; exact hkl), ysFor, if_neg hkn, nodeL, ← hts, treeAt_at ha]
      obtain ⟨L, hL⟩ : ∃ L, L = nl YS t := ⟨_, rfl⟩
      rw [← hL] at hnck
      have hLn : L.Nodup := by rw [hL]; exact List.Pairwise.filter _ HW.out.nodup
      have hxL : x ∈ L := by rw [hL]; exact List.mem_filter.2 ⟨HYX.out, by simpa using ⟨hxlo, hxhi⟩⟩
      obtain ⟨i, hiL, hix⟩ := List.getElem_of_mem hxL
      have hLl : L.length ≤ 20000 := by
        have h1 : L.length ≤ YS.length := by rw [hL]; exact List.length_filter_le _ _
        omega
      have hout : nl (outX YS x) t = L.eraseIdx i := by
        subst hL
        exact nl_out_at HW.out.nodup hiL hix
      have HFAC : Hid (FT.At (nds n) t s ∧ t.root s = k ∧ t.wf ∧ t.lo ≤ x ∧ x < t.hi ∧ L = nl YS t ∧ nc k = L ∧ L.Nodup ∧ nl (outX YS x) t = L.eraseIdx i ∧ k ∉ P.take j ∧ k = P[j] ∧ k < (nds n).length ∧ P.Pairwise (· > ·) ∧ ∃ h : i < L.length, L[i] = x) := ⟨ha, hts, hwt, hxlo, hxhi, hL, hnck, hLn, hout, hkn, hk, hkl, hpd, hiL, hix⟩
      -- the rows that are read
      have hblk := HMr.out.blk
      have hNl : (nds R.length).length = (nds n).length := by rw [HN.out]
      obtain ⟨gl, cl, egl, _, _⟩ := ownRow_at HMr.out.lst (by omega)
      have hlst : LsRow wr lo gl (nds R.length).length cl V.LN V.LL := by have h := HMr.out.lst; rw [egl] at h; exact h
      have hnr := HMr.out.nam k (by omega)
      rw [hnck] at hnr
      obtain ⟨g, c, eg1, _, _⟩ := ownRow_at hnr (by omega)
      rw [eg1] at hnr
      have hnd : (nds n).length ≤ 40000 := by rw [nds_len]; omega
      obtain ⟨NN, hNN⟩ : ∃ NN, NN = (nds n).length := ⟨_, rfl⟩
      have hkNN : k < NN := by omega
      have hNN4 : NN ≤ 40000 := by omega
      have q5 : wr.cell? ⟨tb, 5, none⟩ = some (.slice (some ⟨gl, 0, none⟩) NN cl) := by simp [World.cell?, hblk]; rw [egl, hNN, hNl]
      have q3 : wr.cell? ⟨tb, 3, none⟩ = some (.pointer (some ⟨fb, 0, none⟩)) := by simp [World.cell?, hblk]
      have qn : wr.cell? ⟨gl, k * 2, none⟩ = some (.slice (some ⟨g, 0, none⟩) L.length c) := by rw [← eg1]; exact (hlst.get (by omega)).1
      have hXr : wr.heap[pb]? = some (.cells #[.int .i64 px, .int .i64 py, .int .u32 pi] 34 (0, 0)) := blkK HKr.out HX5.out (fun h => by omega)
      have qp : wr.cell? ⟨pb, 2, none⟩ = some (.int .u32 pi) := by simp [World.cell?, hXr]
      have hPr := rowK HPV.out HKr.out (fun g h h2 => by have := (HPV.out.lt g h).1; have := htbr.2.2.2.2; omega)
      obtain ⟨gp, cp, egp, _, _⟩ := ownRow_at hPr (by omega)
      injection egp with egp egp2 egp3
      subst egp
      have qk := hPr.cellAt j (by omega)
      rw [List.getElem?_map, List.getElem?_eq_getElem hjP, ← hk] at qk
      simp only [Option.map_some] at qk
      have CIX : Hid (∀ W, Below wr.heap.size wr W → Calls Tryz.prog 66 #[.slice (some ⟨g, 0, none⟩) L.length c, .int .u32 pi] W fun e w' => e = .returned (.int .i64 i) ∧ Below W.heap.size W w') := fun W hbW => by
        have hrw := ownsRow_below hnr hbW
        obtain ⟨a1, c1, e1, -, -, hrd1⟩ := Rd.of_owns hrw
        injection e1 with e1 e2 e3
        rw [← e1] at hrd1
        have hpi : pi = nmR R x := by
          unfold nmR ptAt
          have hxR : x < R.length := by rw [← HN.out]; exact hx
          rw [List.getD_eq_getElem?_getD, List.getElem?_eq_getElem hxR]
          simp [HP.out]
        have hmem : pi ∈ L.map (nmR R) := by rw [hpi]; exact List.mem_map.2 ⟨x, hxL, rfl⟩
        refine (index32 (some ⟨g, 0, none⟩) (L.map (nmR R)) L.length c pi W (by simp) hrd1 (by omega) hmem).mono ?_
        rintro e w' ⟨⟨i', he, hi', hii⟩, rfl⟩
        rw [List.getElem_map, hpi] at hii
        have hi2 : i' < L.length := by simpa using hi'
        have hLR : ∀ y ∈ L, y < R.length := fun y hy => HW.out.lt (by rw [hL] at hy; exact (List.mem_filter.1 hy).1)
        have hxx : L[i'] = x := by
          have h1 := hLR _ (List.getElem_mem hi2)
          have hxR : x < R.length := by rw [← HN.out]; exact hx
          unfold nmR ptAt at hii
          rw [List.getD_eq_getElem?_getD, List.getD_eq_getElem?_getD, List.getElem?_eq_getElem h1, List.getElem?_eq_getElem hxR] at hii
          simp only [Option.getD_some] at hii
          by_cases e : L[i'] = x
          · exact e
          · exfalso
            have hid := List.pairwise_map.1 HW.out.ids
            rcases Nat.lt_or_gt_of_ne e with h9 | h9
            · exact List.pairwise_iff_getElem.1 hid _ _ h1 hxR h9 hii
            · exact List.pairwise_iff_getElem.1 hid _ _ hxR h1 h9 hii.symm
        have hii2 : i' = i := by
          by_cases e : i' = i
          · exact e
          · exfalso
            rcases Nat.lt_or_gt_of_ne e with h9 | h9
            · exact List.pairwise_iff_getElem.1 hLn i' i hi2 hiL h9 (by rw [hxx, hix])
            · exact List.pairwise_iff_getElem.1 hLn i i' hiL hi2 h9 (by rw [hxx, hix])
        subst hii2
        exact ⟨he, Below.refl _ _⟩
      have CRT : Hid (∀ W, Below wr.heap.size wr W → Calls Tryz.prog 51 #[.pointer (some ⟨fb, 0, none⟩)] W fun e w' => e = .returned (.int .i64 ((2 * n - 2 : Nat) : Int)) ∧ w' = W) := fun W hbW => by
        have hf := HMr.out.frm.blk
        have hfW := (hbW.block fb (Array.getElem?_eq_some_iff.1 hf).1).trans hf
        rw [← HN.out] at hfW
        exact frame_root fb n hn0 (by omega) W (by simp [World.cell?, hfW]) (by simp [World.cell?, hfW])
      have HEG1 := Lib.hid (And.intro egl eg1)
      have HNl : Hid (NN = (nds n).length ∧ (nds R.length).length = NN) := ⟨hNN, by rw [hNl, hNN]⟩
      clear ha hts hts0 hwt hxlo hxhi hL hnck hLn hout hkn hk hpd hix hxL hT0 hkm hblk hlst hnr hXr hPr egp2 egp3 hNN hNl hkl hnd egl eg1 hwT hlT hhT
      go_upto_region 13 with fail
      have k1 := cell_belowW qn
      have k2 := cell_belowW qp
      have HC13 : Hid (∀ p : BelowW wr, Calls Tryz.prog 66 #[.slice (some ⟨g, 0, none⟩) L.length c, .int .u32 pi] p.W fun e w' => e = .returned (.int .i64 i) ∧ Below p.W.heap.size p.W w') := fun p => CIX.out p.W p.h
      refine wp_region_below (by kernel_rfl) (by kernel_rfl) ?_
      repeat (quiet_step ((go_at_call 66; exact calls_below (HC13.out _))))
      refine wpQuiet_nil ?_
      intro w6 hw'
      have hb6 : Below wr.heap.size wr w6 := by obtain ⟨p, rfl⟩ := hw'; exact p.h
      have HB6 := Lib.hid hb6
      have htl6 : tb < wr.heap.size := World.block_lt_of_cell? wr _ q3
      have q3' := (hb6.cell (p := ⟨tb, 3, none⟩) htl6).trans q3
      clear hw' k1 k2 HC13 hb6 CIX q3 q5 qn qp qk
      obtain ⟨kb, hkb⟩ : ∃ kb, kb = decide (j = 0) := ⟨_, rfl⟩
      have kb1 : ((k : Int) == ((2 * n - 2 : Nat) : Int)) = kb := by
        rw [hkb, Bool.eq_iff_iff, beq_iff_eq, decide_eq_true_eq, ← hroot]
        omega
      have kb2 : (k == 2 * n - 2) = kb := by
        rw [hkb, Bool.eq_iff_iff, beq_iff_eq, decide_eq_true_eq, ← hroot]
      have HKB := Lib.hid hkb
      clear hkb hroot
      go_wp2_with fail
      refine (CRT.out w6 HB6.out).mono ?_
      rintro e w' ⟨rfl, ew'⟩
      subst w'
      go_upto_if 95 with fail
      have HM6 : Hid (CscM w6 lo hi tb fb R (gone.set x true) m yy nc lc V) := HMr.out.below HB6.out HMr.out.tbr.2.2.2.2
      have hs6 := HB6.out.size
      clear CRT q3' kb1 kb2
      go_cut [] from 73 to 175 (fun wx => ∃ yv' : Value, Hid (CscM wx lo hi tb fb R (gone.set x true) m (outX YS x) nc lc { V with yv := yv' }) ∧ Hid (KpS (fun k => lo ≤ k ∧ k < hi) w6 wx))
      case first =>
        cases kb with
        | false =>
          have hj0 : 0 < j := by
            have h := HKB.out
            by_cases e : j = 0
            · simp [e] at h
            · omega
          have e1 := HYY.out
          rw [if_pos hj0] at e1
          have H9 : Hid (CscM w6 lo hi tb fb R (gone.set x true) m (outX YS x) nc lc { V with yv := V.yv }) := by
            have h := HM6.out
            rw [e1] at h
            exact h
          clear e1
          go_wp2
          go_meet
          exact ⟨V.yv, H9.out, KpS.refl _ _⟩
        | true =>
          have hj0 : j = 0 := by
            have h := HKB.out
            simpa using h.symm
          have e1 := HYY.out
          rw [if_neg (by omega)] at e1
          have hLY : L = YS := by
            obtain ⟨f1, f2, f3, f4, f5, f6, f7, f8, f9, f10, f11, f12, f13, f14⟩ := HFAC.out
            have hk2 : k = 2 * n - 2 := by
              obtain ⟨Q, hQ⟩ := FT.path_head (mkT 0 n) 0 x
              rw [nds_root hn0] at hQ
              have hPQ : P = (2 * n - 2) :: Q := by rw [HPD.out, hQ]
              rw [f11]
              simp only [hj0, hPQ, List.getElem_cons_zero]
            obtain ⟨ht, -⟩ := FT.At.unique f1 (nds_at n hn0) (by rw [f2, hk2, nds_root hn0])
            rw [f6, ht, HN.out]
            exact HW.out.top (by rw [← HN.out]; exact hn0)
          have hyr := HM6.out.ys
          rw [e1] at hyr
          obtain ⟨gy, cy, ey, _, _⟩ := ownRow_at hyr (by omega)
          rw [ey] at hyr
          have hylen : (ysR R YS).length = YS.length := by simp [ysR]
          have hiY : i < YS.length := by rw [← hLY]; exact hiL
          have hiYx : YS[i]'hiY = x := by
            obtain ⟨f1, f2, f3, f4, f5, f6, f7, f8, f9, f10, f11, f12, f13, f14, f15⟩ := HFAC.out
            subst hLY
            exact f15
          have hYE : YS.eraseIdx i = outX YS x := erase_filter HW.out.nodup hiY hiYx
          have CDY := delI64 (l := ysR R YS) (i := i) (by rw [hylen]; exact hyr) (by rw [hylen]; exact hiY)
          rw [hylen] at CDY
          have CDY := Lib.hid CDY
          have htb6 := HM6.out.blk
          have q6 : w6.cell? ⟨tb, 6, none⟩ = some (.slice (some ⟨gy, 0, none⟩) YS.length cy) := by simp [World.cell?, htb6]; rw [ey]
          have hgyt : tb ≠ gy := fun h => row_ne hyr htb6 (by decide) gy rfl h
          have HEY := Lib.hid ey
          have HYE := Lib.hid hYE
          have HE1 := Lib.hid e1
          have htl6' : tb < w6.heap.size := (Array.getElem?_eq_some_iff.1 htb6).1
          have hgyb : lo ≤ gy ∧ gy < hi := ⟨(hyr.lt gy rfl).1, HM6.out.top V.yv (by simp) gy (by rw [ey]; rfl)⟩
          clear hyr htb6 hLY hYE e1 ey hiYx hj0
          go_wp2_with (go_at_call 67; refine CDY.out.mono ?_; rintro e w7 ⟨rfl, hr7, hk7⟩; have ht7 := blkK hk7 HM6.out.blk hgyt; have q7 : w7.cell? ⟨tb, 6, none⟩ = some (.slice (some ⟨gy, 0, none⟩) YS.length cy) := (by simp [World.cell?, ht7]; rw [HEY.out]); have z7 : w7.frozen? ⟨tb, 6, none⟩ = false := (by simp [World.frozen?, ht7]); have HR7 := Lib.hid hr7; have HK7 := Lib.hid hk7; clear hr7 hk7 ht7)
          go_meet
          have hr7 := HR7.out
          refine ⟨.slice (some ⟨gy, 0, none⟩) (YS.length - 1) cy, ?_, ?_⟩
          · have h := HM6.out
            rw [HE1.out] at h
            refine CscM.setYs h HEY.out HK7.out (yy' := outX YS x) ?_
            have e2 : (ysR R YS).eraseIdx i = ysR R (outX YS x) := by
              rw [← HYE.out]
              unfold ysR
              rw [eraseIdx_mapF]
            have e3 : (outX YS x).length = YS.length - 1 := by rw [← HYE.out, List.length_eraseIdx, if_pos hiY]
            rw [e2] at hr7
            rw [e3]
            exact hr7
          · exact (HK7.out.mono (fun k h => by subst h; exact hgyb)).set (a := ⟨tb, 6, none⟩) _ (.inl ⟨htbr.1, htbr.2.1⟩)
      case rest =>
        obtain ⟨yv', HM7, HK7⟩ := hcut
        have hNk : k < (nds R.length).length := by have := HNl.out; omega
        have hnr := HM7.out.nam k hNk
        obtain ⟨f1, f2, f3, f4, f5, f6, f7, f8, f9, f10, f11, f12, f13, f14, f15⟩ := HFAC.out
        rw [f7] at hnr
        have hnr : wc.ownsRow lo 32 1 (V.LN k) L.length ((L.map (nmR R)).map (Value.int .u32)) := hnr
        rw [HEG1.out.2] at hnr
        have hlst : LsRow wc lo gl (nds R.length).length cl V.LN V.LL := by have h := HM7.out.lst; have h : World.ownsRow _ _ _ _ V.lv _ _ := h; rw [HEG1.out.1] at h; exact h
        have qn : wc.cell? ⟨gl, k * 2, none⟩ = some (.slice (some ⟨g, 0, none⟩) L.length c) := by rw [← HEG1.out.2]; exact (hlst.get hNk).1
        have hglg : gl ≠ g := fun h => rows_ne hlst hnr (by decide) gl rfl (by rw [h]; rfl)
        have hmapl : (L.map (nmR R)).length = L.length := by simp
        have CDN := delU32 (l := L.map (nmR R)) (i := i) (by rw [hmapl]; exact hnr) (by rw [hmapl]; exact hiL)
        rw [hmapl] at CDN
        have CDN := Lib.hid CDN
        have hgb : lo ≤ g ∧ g < hi := ⟨(hnr.lt g rfl).1, (HM7.out.topL k hNk).1 g (by show (V.LN k).ownBlock = some g; rw [HEG1.out.2]; rfl)⟩
        have hglb : lo ≤ gl ∧ gl < hi := ⟨(hlst.lt gl rfl).1, HM7.out.top V.lv (by simp) gl (by rw [HEG1.out.1]; rfl)⟩
        have hgll : gl < wc.heap.size := (hlst.lt gl rfl).2
        have zn := hlst.frozenAt (k * 2)
        clear f1 f2 f3 f4 f5 f6 f7 f8 f9 f10 f11 f12 f13 f15 hnr hlst
        go_upto_region 17 with (go_at_call 68; refine CDN.out.mono ?_; rintro e w8 ⟨rfl, hr8, hk8⟩; obtain ⟨ck8, fk8⟩ := cellK hk8 hgll hglg; have q8 := (ck8 (k * 2)).trans qn; have z8 := (fk8 (k * 2)).trans zn; have HR8 := Lib.hid hr8; have HK8 := Lib.hid hk8; clear hr8 hk8 ck8 fk8)
        obtain ⟨w9, ew9⟩ : ∃ w9, w9 = w8.setCell ⟨gl, k * 2, none⟩ (.slice (some ⟨g, 0, none⟩) (L.length - 1) c) := ⟨_, rfl⟩
        have hLE : (L.eraseIdx i).length = L.length - 1 := by rw [List.length_eraseIdx, if_pos hiL]
        have HM9 : Hid (CscM w9 lo hi tb fb R (gone.set x true) m (outX YS x) (updA nc k (L.eraseIdx i)) lc { V with yv := yv', LN := upd V.LN k (.slice (some ⟨g, 0, none⟩) (L.length - 1) c) }) := by
          rw [ew9]
          refine CscM.setNam HM7.out hNk HEG1.out.2 HEG1.out.1 HK8.out (L' := L.eraseIdx i) ?_
          have h := HR8.out
          rw [eraseIdx_mapF] at h
          rw [hLE]
          exact h
        have HK9 : Hid (KpS (fun k => lo ≤ k ∧ k < hi) w5 w9) := by
          rw [ew9]
          exact ((((HKr.out.below HB6.out).trans HK7.out).trans (HK8.out.mono (fun k h => by subst h; exact hgb))).set (a := ⟨gl, k * 2, none⟩) _ (.inl hglb))
        rw [← ew9]
        clear ew9 q8 z8 HR8 HK8 HM7 HK7 qn zn CDN
        have htb9 := HM9.out.blk
        have hnod9 := HM9.out.nod
        have hnod9 : w9.ownsRow lo 119 7 V.nv (nds R.length).length ((nds R.length).flatMap eNd) := hnod9
        obtain ⟨gn, cn, en, _, _⟩ := ownRow_at hnod9 (by omega)
        obtain ⟨_, _, ee, -, -, hrn⟩ := RdK.of_owns eNd_len (by decide) hnod9
        rw [en] at ee
        injection ee with ee1 ee2 ee3
        rw [← ee1, ← HN.out] at hrn
        clear ee1 ee2 ee3
        have q4 : w9.cell? ⟨tb, 4, none⟩ = some (.slice (some ⟨gn, 0, none⟩) NN cn) := by
          simp [World.cell?, htb9]
          rw [en, ← HNl.out.2]
        obtain ⟨hgnl, n0, n1, n2, n3, n4, n5, n6⟩ := nd_all hrn (by have h := HFAC.out.1.get; rw [HFAC.out.2.1] at h; exact h)
        rw [Nat.zero_add] at n0
        have hFin : ∀ k', k' < (nds R.length).length → updA nc k (L.eraseIdx i) k' = nodeL n (ysFor YS x (P.take (j + 1)) k') k' := fun k' hk' => by
          obtain ⟨f1, f2, f3, f4, f5, f6, f7, f8, f9, f10, f11, f12, f13, f14, f15⟩ := HFAC.out
          have hmem : k' ∈ P.take (j + 1) ↔ k' ∈ P.take j ∨ k' = k := by rw [List.take_succ_eq_append_getElem hjP, ← f11]; simp
          by_cases e : k' = k
          · subst e
            rw [updA_same, ysFor, if_pos (hmem.2 (.inr rfl)), nodeL, ← f2, treeAt_at f1, f9]
          · rw [updA_ne e, HNC.out k' hk']
            unfold ysFor
            by_cases e2 : k' ∈ P.take j
            · rw [if_pos e2, if_pos (hmem.2 (.inl e2))]
            · rw [if_neg e2, if_neg (fun h => (hmem.1 h).elim e2 e)]
        have HFin := Lib.hid hFin
        have hFinL : ∀ k', k' ≠ k → ∀ v, lc k' = lefL n (ysFor YS x (P.take j) k') k' → updA lc k v k' = lefL n (ysFor YS x (P.take (j + 1)) k') k' := fun k' e v h => by
          obtain ⟨f1, f2, f3, f4, f5, f6, f7, f8, f9, f10, f11, f12, f13, f14, f15⟩ := HFAC.out
          have hmem : k' ∈ P.take (j + 1) ↔ k' ∈ P.take j ∨ k' = k := by rw [List.take_succ_eq_append_getElem hjP, ← f11]; simp
          rw [updA_ne e, h]
          unfold ysFor
          by_cases e2 : k' ∈ P.take j
          · rw [if_pos e2, if_pos (hmem.2 (.inl e2))]
          · rw [if_neg e2, if_neg (fun h => (hmem.1 h).elim e2 e)]
        have HFinL := Lib.hid hFinL
        clear hFin hFinL hrn hnod9 htb9 en n1 n2 n3 n4 n5 n6
        have hyif : outX YS x = if 0 < j + 1 then outX YS x else YS := by rw [if_pos (by omega)]
        have HYif := Lib.hid hyif
        clear hyif
        cases ht : t with
        | leaf q =>
          rw [ht] at n0
          simp only [FT.top] at n0
          have HT := Lib.hid ht
          clear ht
          have hkL : updA lc k (lc k) = lc := by
            funext k'
            unfold updA
            split
            · rename_i e; rw [e]
            · rfl
          have HKL := Lib.hid hkL
          clear hkL
          go_wp2
          go_roundg (P.length - (j + 1))
          case measure => omega
          case rel =>
            refine ⟨j + 1, outX YS x, _, lc, _, by go_num, by omega, Nat.le_refl _, HM9, HYif.out, HFin.out, ?_, HK9⟩
            intro l r s' ha'
            have hne : (FT.node l r).root s' ≠ k := fun e => by
              have h1 := HFAC.out.1
              rw [HT.out, HN.out] at h1
              have := (FT.At.unique ha' h1 (by rw [e, ← HFAC.out.2.1, HT.out])).1
              cases this
            have h9 := HFinL.out _ hne (lc k) (HLC.out l r s' ha')
            rw [HKL.out] at h9
            exact h9
        | node l r =>
          rw [ht] at n0
          simp only [FT.top] at n0
          have HT := Lib.hid ht
          clear ht
          obtain ⟨M, hM⟩ : ∃ M, M = l.hi := ⟨_, rfl⟩
          have haR : FT.At (nds R.length) (.node l r) s := by rw [← HN.out, ← HT.out]; exact HFAC.out.1
          have hkR : (FT.node l r).root s = k := by rw [← HT.out]; exact HFAC.out.2.1
          have hLnode : L = nl YS (.node l r) := by rw [← HT.out]; exact HFAC.out.2.2.2.2.2.1
          have hlck : lc k = lf M L := by
            rw [← hkR, HLC.out l r s haR, hkR, ysFor, if_neg HFAC.out.2.2.2.2.2.2.2.2.2.1]
            have h9 := lefL_at (n := n) (by rw [HN.out]; exact haR) YS
            rw [hkR] at h9
            rw [h9, hM, ← hLnode]
          have hlef : w9.ownsRow lo 3 1 (V.LL k) (lc k).length ((lc k).map (Value.int .i64)) := by have h9 := HM9.out.lef l r s haR; rw [hkR] at h9; exact h9
          rw [hlck] at hlef
          have hlfl := lf_len M L
          obtain ⟨gL, cL, eL, _, _⟩ := ownRow_at hlef (by omega)
          rw [eL] at hlef
          have hix := HFAC.out.2.2.2.2.2.2.2.2.2.2.2.2.2
          have hlst9 : LsRow w9 lo gl (nds R.length).length cl (upd V.LN k (.slice (some ⟨g, 0, none⟩) (L.length - 1) c)) V.LL := by have h := HM9.out.lst; have h : World.ownsRow _ _ _ _ V.lv _ _ := h; rw [HEG1.out.1] at h; exact h
          have ql : w9.cell? ⟨gl, k * 2 + 1, none⟩ = some (.slice (some ⟨gL, 0, none⟩) (L.length + 1) cL) := by
            rw [← hlfl, ← eL]; exact (hlst9.get hNk).2
          have qa := hlef.cellAt (i + 1) (by omega)
          have qb := hlef.cellAt i (by omega)
          rw [List.getElem?_map, List.getElem?_eq_getElem (show i + 1 < (lf M L).length by omega)] at qa
          rw [List.getElem?_map, List.getElem?_eq_getElem (show i < (lf M L).length by omega)] at qb
          simp only [Option.map_some] at qa qb
          obtain ⟨va, hva⟩ : ∃ va, va = (lf M L)[i + 1]'(by omega) := ⟨_, rfl⟩
          obtain ⟨vb, hvb⟩ : ∃ vb, vb = (lf M L)[i]'(by omega) := ⟨_, rfl⟩
          rw [← hva] at qa
          rw [← hvb] at qb
          have hwent : va - vb = if x < M then 1 else 0 := by rw [hva, hvb]; exact lf_went hiL hix.2 _ _
          have hvab : 0 ≤ va ∧ va ≤ 20000 ∧ 0 ≤ vb ∧ vb ≤ 20000 := by
            have h1 := lf_bd (m := M) (L := L) (hva ▸ List.getElem_mem _)
            have h2 := lf_bd (m := M) (L := L) (hvb ▸ List.getElem_mem _)
            omega
          obtain ⟨W, hWe⟩ : ∃ W, W = (if x < M then (1 : Int) else 0) := ⟨_, rfl⟩
          rw [← hWe] at hwent
          have hW01 : 0 ≤ W ∧ W ≤ 1 := by rw [hWe]; split <;> omega
          have HWE := Lib.hid hWe
          have HLCK := Lib.hid hlck
          have CDL := delInt (l := lf M L) (i := i + 1) (by rw [hlfl]; rw [hlfl] at hlef; exact hlef) (by omega)
          rw [hlfl] at CDL
          have CDL := Lib.hid CDL
          have hglgL : gl ≠ gL := fun h => rows_ne hlst9 hlef (by decide) gl rfl (by rw [h]; rfl)
          have hgLb : lo ≤ gL ∧ gL < hi := ⟨(hlef.lt gL rfl).1, (HM9.out.topL k hNk).2 gL (by show (V.LL k).ownBlock = some gL; rw [eL]; rfl)⟩
          have hgl9 : gl < w9.heap.size := (hlst9.lt gl rfl).2
          have zl := hlst9.frozenAt (k * 2 + 1)
          have HEL := Lib.hid eL
          have HHR := Lib.hid (And.intro haR hkR)
          have HMM := Lib.hid (And.intro hM hLnode)
          have hiL1 : i + 1 < L.length + 1 := by omega
          clear hlef hlst9 hva hvb hWe hlck eL haR hkR hM hLnode hlfl hix
          go_upto_region 18 with fail
          go_quiet (fail)
          have ql' : (w9.drewN nq).cell? ⟨gl, k * 2 + 1, none⟩ = some (.slice (some ⟨gL, 0, none⟩) (L.length + 1) cL) := ql
          have CDL2 : Hid (∀ q, Calls Tryz.prog 69 #[.slice (some ⟨gL, 0, none⟩) (L.length + 1) cL, .int .i64 (i + 1 : Nat), .int .i64 (i + 1 + 1 : Nat)] (w9.drewN q) fun e w' => e = .returned (.slice (some ⟨gL, 0, none⟩) L.length cL) ∧ w'.ownsRow lo 3 1 (.slice (some ⟨gL, 0, none⟩) L.length cL) L.length (((lf M L).eraseIdx (i + 1)).map (Value.int .i64)) ∧ KpS (fun k => k = gL) w9 w') := fun q => by
            have hlfl := lf_len M L
            have h9 := HM9.out.lef l r s HHR.out.1
            rw [HHR.out.2] at h9
            have h9 : w9.ownsRow lo 3 1 (V.LL k) (lc k).length ((lc k).map (Value.int .i64)) := h9
            rw [HLCK.out, HEL.out, hlfl] at h9
            have h8 := delInt (w := w9.drewN q) (l := lf M L) (i := i + 1) (by rw [hlfl]; exact h9) (by omega)
            rw [hlfl] at h8
            refine h8.mono ?_
            rintro e w' ⟨h1, h2, h3⟩
            exact ⟨h1, h2, ((KpS.refl (fun k => k = gL) w9).below (Below.drewAny w9.heap.size q)).trans h3⟩
          clear CDL
          go_upto_region 20 with (go_at_call 69; refine (CDL2.out _).mono ?_; rintro e w10 ⟨rfl, hr10, hk10⟩; obtain ⟨ck10, fk10⟩ := cellK hk10 hgl9 hglgL; have q10 := (ck10 (k * 2 + 1)).trans ql; have z10 := (fk10 (k * 2 + 1)).trans zl; have HR10 := Lib.hid hr10; have HK10 := Lib.hid hk10; clear hr10 hk10 ck10 fk10)
          have hLx : ∃ h : i < L.length, L[i] = x := HFAC.out.2.2.2.2.2.2.2.2.2.2.2.2.2
          obtain ⟨w11, ew11⟩ : ∃ w11, w11 = w10.setCell ⟨gl, k * 2 + 1, none⟩ (.slice (some ⟨gL, 0, none⟩) L.length cL) := ⟨_, rfl⟩
          have hlE := lfE_len (m := M) hiL
          have HM11 : Hid (CscM w11 lo hi tb fb R (gone.set x true) m (outX YS x) (updA nc k (L.eraseIdx i)) (updA lc k (lfS M L i (i + 1))) { V with yv := yv', LN := upd V.LN k (.slice (some ⟨g, 0, none⟩) (L.length - 1) c), LL := upd V.LL k (.slice (some ⟨gL, 0, none⟩) L.length cL) }) := by
            rw [ew11]
            refine CscM.setLef HM9.out HHR.out.1 HHR.out.2 HEL.out HEG1.out.1 HK10.out (L' := lfS M L i (i + 1)) ?_
            rw [lfS_first hiL, hlE]
            exact HR10.out
          have HK11 : Hid (KpS (fun k => lo ≤ k ∧ k < hi) w5 w11) := by
            rw [ew11]
            exact (HK9.out.trans (HK10.out.mono (fun k h => by subst h; exact hgLb))).set (a := ⟨gl, k * 2 + 1, none⟩) _ (.inl hglb)
          rw [← ew11]
          clear ew11 q10 z10 HR10 HK10 HM9 HK9 ql ql' qa qb zl CDL2 q4 n0 hgl9
          go_wp2_with fail
          go_loopg [14] L.length (fun kx s14 wr => ∃ jj : Nat, s14 = .int .i64 jj ∧ i + 1 ≤ jj ∧ jj ≤ L.length ∧ L.length - jj ≤ kx ∧ Hid (CscM wr lo hi tb fb R (gone.set x true) m (outX YS x) (updA nc k (L.eraseIdx i)) (updA lc k (lfS M L i jj)) { V with yv := yv', LN := upd V.LN k (.slice (some ⟨g, 0, none⟩) (L.length - 1) c), LL := upd V.LL k (.slice (some ⟨gL, 0, none⟩) L.length cL) }) ∧ Hid (KpS (fun k => lo ≤ k ∧ k < hi) w5 wr))
          case atStart => exact ⟨i + 1, rfl, Nat.le_refl _, by omega, by omega, HM11, HK11⟩
          case round =>
            obtain ⟨jj, rfl, hij, hjL, hkx2, HMI, HKI⟩ := hrel
            have hlst : LsRow wr lo gl (nds R.length).length cl (upd V.LN k (.slice (some ⟨g, 0, none⟩) (L.length - 1) c)) (upd V.LL k (.slice (some ⟨gL, 0, none⟩) L.length cL)) := by have h := HMI.out.lst; have h : World.ownsRow _ _ _ _ V.lv _ _ := h; rw [HEG1.out.1] at h; exact h
            have ql := (hlst.get hNk).2
            rw [upd_same] at ql
            have hlr : wr.ownsRow lo 3 1 (.slice (some ⟨gL, 0, none⟩) L.length cL) L.length ((lfS M L i jj).map (Value.int .i64)) := by
              have h := HMI.out.lef l r s HHR.out.1
              rw [HHR.out.2, updA_same] at h
              have h : wr.ownsRow lo 3 1 (upd V.LL k (.slice (some ⟨gL, 0, none⟩) L.length cL) k) (lfS M L i jj).length ((lfS M L i jj).map (Value.int .i64)) := h
              rw [upd_same, lfS_len hiL hjL] at h
              exact h
            clear hlst
            by_cases hjj : jj < L.length
            · have qv := hlr.cellAt jj (by omega)
              have zv := hlr.frozenAt jj
              have hjS : jj < (lfS M L i jj).length := by rw [lfS_len hiL (by omega)]; exact hjj
              rw [List.getElem?_map, List.getElem?_eq_getElem hjS] at qv
              simp only [Option.map_some] at qv
              have hbd := lfS_bd (m := M) hiL hjj
              obtain ⟨y, hy⟩ : ∃ y, y = (lfS M L i jj)[jj]'hjS := ⟨_, rfl⟩
              rw [← hy] at qv hbd
              have hstep : (lfS M L i jj).set jj (y - W) = lfS M L i (jj + 1) := by
                rw [hy, HWE.out]
                exact lfS_step hiL hLx.2 (by omega) hjj
              have hby : 0 ≤ y ∧ y ≤ 20000 := by omega
              have HY : Hid (CscM (wr.setCell ⟨gL, jj, none⟩ (.int .i64 (y - W))) lo hi tb fb R (gone.set x true) m (outX YS x) (updA nc k (L.eraseIdx i)) (updA lc k (lfS M L i (jj + 1))) { V with yv := yv', LN := upd V.LN k (.slice (some ⟨g, 0, none⟩) (L.length - 1) c), LL := upd V.LL k (.slice (some ⟨gL, 0, none⟩) L.length cL) }) := by
                have h := CscM.setOne HMI.out HHR.out.1 HHR.out.2 (c := cL) (g := gL) (by rw [updA_same, lfS_len hiL hjL]; exact upd_same _ _ _) (j := jj) (y - W)
                rw [updA_same, updA_updA, hstep] at h
                exact h
              have HKY : Hid (KpS (fun k => lo ≤ k ∧ k < hi) w5 (wr.setCell ⟨gL, jj, none⟩ (.int .i64 (y - W)))) := HKI.out.set (a := ⟨gL, jj, none⟩) _ (.inl hgLb)
              clear hy hstep hlr hbd
              go_wp2
              go_roundg (L.length - (jj + 1))
              case measure => omega
              case rel => exact ⟨jj + 1, by go_num, by omega, by omega, Nat.le_refl _, HY, HKY⟩
            · obtain rfl : jj = L.length := by omega
              clear hlr
              go_wp2
              go_roundg (P.length - (j + 1))
              case measure => omega
              case rel =>
                refine ⟨j + 1, outX YS x, _, _, _, by go_num, by omega, Nat.le_refl _, HMI, HYif.out, HFin.out, ?_, HKI⟩
                intro l' r' s' ha'
                by_cases e : (FT.node l' r').root s' = k
                · obtain ⟨f1, f2, f3, f4, f5, f6, f7, f8, f9, f10, f11, f12, f13, f14⟩ := HFAC.out
                  have hmem : k ∈ P.take (j + 1) := by rw [List.take_succ_eq_append_getElem hjP, ← f11]; simp
                  have h9 := lefL_at (n := n) (by rw [HN.out]; exact HHR.out.1) (outX YS x)
                  rw [HHR.out.2] at h9
                  rw [e, updA_same, lfS_last hiL, ysFor, if_pos hmem, h9, HMM.out.1]
                  rw [HT.out] at f9
                  rw [f9]
                · exact HFinL.out _ e _ (HLC.out l' r' s' ha')
    · obtain rfl : j = P.length := by omega
      have hbase := HKr.out.size
      go_wp2
      go_ret
      have e1 := HYY.out
      have hP0 : 0 < P.length := by
        rw [HPD.out]
        obtain ⟨Q, hQ⟩ := FT.path_head (mkT 0 n) 0 x
        rw [hQ]; simp
      rw [if_pos hP0] at e1
      subst e1
      have h2 := HMr.out
      rw [HMX.out] at h2
      refine ⟨rfl, V, h2.toAt (fun k hk => ?_) (fun l r s ha => ?_), HK5.out.trans HKr.out⟩
      · rw [HNC.out k hk, List.take_length, ← HN.out, HPD.out]
        exact (ysFor_path hx YS (by rw [HN.out]; exact hk)).1
      · rw [HLC.out l r s ha, List.take_length, ← HN.out, HPD.out]
        exact (ysFor_path hx YS (by rw [HN.out]; exact ha.lt)).2
end Go.Proofs.YtggfdlanobndjaaGreat

/- A cascade of points: Build, Report, Count, Len, Drop in words of the points that live. -/
namespace Go.Proofs.YtggfdlanobndjaaGreat
open Go.RowKit Go.Sort Go.Shelf Go.Lib Go.Maps
set_option linter.unusedSimpArgs false
set_option linter.unusedVariables false

/-- a tree of points, as it lies: l the living ones; c1, c2: how many were built, and what a box may cost -/
def TreeAt (w : World) (lo hi tb n0 : Nat) (l : List Pt) : Prop :=
  ∃ fb R gone YS V, CscAt w lo hi tb fb R gone YS V ∧ CscWF R gone YS ∧ Lives R YS l ∧ R.length = n0 ∧ n0 ≤ 20000

section
variable {w w' : World} {lo hi tb n0 : Nat} {l : List Pt}
theorem TreeAt.kept {S : Nat → Prop} (h : TreeAt w lo hi tb n0 l) (K : KpS S w w') (hS : ∀ k, lo ≤ k → k < hi → ¬ S k) : TreeAt w' lo hi tb n0 l := by
  obtain ⟨fb, R, gone, YS, V, h1, h2⟩ := h
  exact ⟨fb, R, gone, YS, V, h1.kept K hS, h2⟩
theorem TreeAt.below {B : Nat} (h : TreeAt w lo hi tb n0 l) (hb : Below B w w') (hB : hi ≤ B) : TreeAt w' lo hi tb n0 l := by
  obtain ⟨fb, R, gone, YS, V, h1, h2⟩ := h
  exact ⟨fb, R, gone, YS, V, h1.below hb hB, h2⟩
theorem TreeAt.hi_le (h : TreeAt w lo hi tb n0 l) : hi ≤ w.heap.size := by
  obtain ⟨fb, R, gone, YS, V, h1, h2⟩ := h
  exact h1.tbr.2.2.2.2

theorem tBuild (a : Option Addr) (c : Nat) (l : List Pt) (w : World) (hl : RdK ePt 3 w a l) (hn : l.length ≤ 20000) (hw : wfN l) (hu : unl l = true) :
    Calls Tryz.prog 27 #[.slice a l.length c] w fun e w' => ∃ tb, e = .returned (.tuple #[.pointer (some ⟨tb, 0, none⟩), .int .i64 0]) ∧ TreeAt w' w.heap.size w'.heap.size tb l.length l ∧ Below w.heap.size w w' :=
  (casc_build a c l w hl hn hw hu).mono fun e w' ⟨tb, fb, V, he, h1, h2⟩ => by
    have hu' : (ids l).Nodup := by unfold unl at hu; simpa using hu
    have hs := srtX_sorted hu'
    have hid : (ids (srtX l)).Nodup := ((srtX_perm l).map _).nodup_iff.2 hu'
    have hwf := ysOf_wf hs hid
    have hlen : (srtX l).length = l.length := (srtX_perm l).length_eq
    refine ⟨tb, he, ⟨fb, _, _, _, V, h1, hwf, lives_first hu' _ (fun i => ?_), hlen, by omega⟩, h2⟩
    rw [hwf.live, List.getElem?_replicate]
    split <;> simp_all

theorem tReport (h : TreeAt w lo hi tb n0 l) (x1 x2 y1 y2 bi : Int) :
    Calls Tryz.prog 29 #[.pointer (some ⟨tb, 0, none⟩), .agg #[.int .i64 x1, .int .i64 x2, .int .i64 y1, .int .i64 y2, .int .u32 bi]] w fun e w' => ∃ v, ∃ c : Nat, e = .returned (.tuple #[v, .int .i64 ((c + (hasB l x1 x2 y1 y2).length : Nat) : Int)]) ∧ c ≤ 8 * Lib.bitLen n0 + 1 ∧ w'.ownsRow w.heap.size 32 1 v (hasB l x1 x2 y1 y2).length ((hasB l x1 x2 y1 y2).map (Value.int .u32)) ∧ Below w.heap.size w w' := by
  obtain ⟨fb, R, gone, YS, V, h1, h2, h3, h4, h5⟩ := h
  refine (casc_report h1 h2 (by omega) x1 x2 y1 y2 bi).mono ?_
  rintro e w' ⟨v, he, hr, hb⟩
  obtain ⟨e1, e2⟩ := askR_names h2 h3 x1 x2 y1 y2
  have e3 : (askR R YS x1 x2 y1 y2).1.length = (hasB l x1 x2 y1 y2).length := by
    rw [e2]; unfold hasB; rw [srtI_len]; simp [ids]
  rw [e1, e3] at hr
  rw [e3] at he
  exact ⟨v, _, he, h4 ▸ askR_cost h2 (by omega) x1 x2 y1 y2, hr, hb⟩

theorem hasB_len (x1 x2 y1 y2 : Int) : (hasB l x1 x2 y1 y2).length = (l.filter (inB x1 x2 y1 y2)).length := by unfold hasB; rw [srtI_len]; simp [ids]

theorem tLen (h : TreeAt w lo hi tb n0 l) :
    Calls Tryz.prog 30 #[.pointer (some ⟨tb, 0, none⟩)] w fun e w' => e = .returned (.int .i64 l.length) ∧ w' = w := by
  obtain ⟨fb, R, gone, YS, V, h1, h2, h3, h4, h5⟩ := h
  have h := casc_len h1
  rwa [h3.len h2] at h

theorem tDrop (h : TreeAt w lo hi tb n0 l) (p : Pt) :
    Calls Tryz.prog 28 #[.pointer (some ⟨tb, 0, none⟩), vPt p.1 p.2.1 p.2.2] w fun e w' => e = .returned (.bool (decide (p ∈ l))) ∧ TreeAt w' lo hi tb n0 (l.filter fun q => decide (q ≠ p)) ∧ KpS (fun k => lo ≤ k ∧ k < hi) w w' := by
  obtain ⟨fb, R, gone, YS, V, h1, h2, h3, h4, h5⟩ := h
  by_cases hp : p ∈ l
  · obtain ⟨x, hx, e⟩ := (h3.mem p).1 hp
    have hl := h2.lt hx
    rw [ptAt_eq hl] at e
    have hg := (h2.live x).1 hx
    refine (casc_drop_yes h1 h2 (by omega) hl hg p e).mono ?_
    rintro e' w' ⟨rfl, V', hc, hk⟩
    have h9 := h3.drop h2 hl hx
    rw [e] at h9
    exact ⟨by simp [hp], ⟨fb, R, _, _, V', hc, h2.drop hg, h9, h4, h5⟩, hk⟩
  · have hno : ∀ x (h : x < R.length), R[x] = p → gone[x]? ≠ some false := fun x hx e hg => hp ((h3.mem p).2 ⟨x, (h2.live x).2 hg, by rw [ptAt_eq hx]; exact e⟩)
    refine (casc_drop_no h1 h2 (by omega) p hno).mono ?_
    rintro e w' ⟨rfl, hb⟩
    have hf : (l.filter fun q => decide (q ≠ p)) = l := List.filter_eq_self.2 fun q hq => by
      simp only [decide_eq_true_eq]
      rintro rfl
      exact hp hq
    rw [hf]
    exact ⟨by simp [hp], ⟨fb, R, gone, YS, V, h1.below hb h1.tbr.2.2.2.2, h2, h3, h4, h5⟩, (KpS.refl _ w).below hb⟩
end
end Go.Proofs.YtggfdlanobndjaaGreat

/- gridironlaw11.awake answers true. -/
namespace Go.Proofs.YtggfdlanobndjaaGreat
open Go.RowKit Go.Maps
attribute [local irreducible] wpQuiet
set_option linter.unusedSimpArgs false
set_option linter.unusedVariables false

def awP : List Pt := [(0, 0, 1), (2, 5, 2), (2, 1, 3), (7, 3, 4)]
theorem awH1 : hasB [(0, 0, 1), (2, 5, 2), (2, 1, 3), (7, 3, 4)] 0 2 1 5 = [2, 3] := by
  unfold hasB
  rw [show ids (([(0, 0, 1), (2, 5, 2), (2, 1, 3), (7, 3, 4)] : List Pt).filter (inB 0 2 1 5)) = [2, 3] by decide]
  exact srtI_of (by decide) (List.Perm.refl _)
theorem awH2 : hasB [(0, 0, 1), (2, 5, 2), (7, 3, 4)] 0 2 1 5 = [2] := by
  unfold hasB
  rw [show ids (([(0, 0, 1), (2, 5, 2), (7, 3, 4)] : List Pt).filter (inB 0 2 1 5)) = [2] by decide]
  exact srtI_of (by decide) (List.Perm.refl _)
theorem awH3 : (([(0, 0, 1), (2, 5, 2), (2, 1, 3), (7, 3, 4)] : List Pt).filter (inB 0 7 0 3)).length = 3 := by decide
theorem awH4 : (([(0, 0, 1), (2, 5, 2), (2, 1, 3), (7, 3, 4)] : List Pt).filter fun q => decide (q ≠ (2, 1, 3))) = [(0, 0, 1), (2, 5, 2), (7, 3, 4)] := by decide
theorem awH5 : decide (((2, 1, 3) : Pt) ∈ ([(0, 0, 1), (2, 5, 2), (2, 1, 3), (7, 3, 4)] : List Pt)) = true := by decide

end Go.Proofs.YtggfdlanobndjaaGreat

/- gridironlaw11.dropped: a tree from which some points were dropped. -/
namespace Go.Proofs.YtggfdlanobndjaaGreat
open Go.RowKit Go.Maps
attribute [local irreducible] wpQuiet
set_option linter.unusedSimpArgs false
set_option linter.unusedVariables false

end Go.Proofs.YtggfdlanobndjaaGreat

/- Arguments that are slices of structs, opened to lists. (open_slice_fields is the guide's own block for copying, out of extra-structs.) -/
namespace Go.Proofs.YtggfdlanobndjaaGreat
open Go.RowKit Go.ChangeShapes Go.WideShapes Go.Deep

section
variable {H : Type} {enc : TypeId × Value → H} {P : Program} {w : World} {base : Nat} {spare : Nat → Bool} {held : Bool}
theorem open_slice_fields {t e : TypeId} {fs : Array Field} {fuel : Nat} {cs : List Value} {x : DataW H × List MemPlace} (ht : P.underlying t = some (.slice e)) (he : P.underlying e = some (.struct fs))
    (hone : oneCellFields P fs = true) (hC : P.cellsOf e = fs.size) (h : DataW.trod enc P w base spare held fuel t cs = some x) :
    (cs = [.slice none 0 0] ∧ x = (.nil, [])) ∨
    ∃ (a : Addr) (len cap m : Nat) (D : Nat → DataW H) (Pl : Nat → List MemPlace), cs = [.slice (some a) len cap] ∧ base ≤ a.block ∧ len ≤ cap ∧ cap ≤ maxLen ∧ m = (if spare a.block then cap else len) ∧
      x = (.slice ((List.range len).map D) ((List.range (m - len)).map fun j => D (len + j)), MemPlace.row a (m * fs.size) ++ (List.range m).flatMap Pl) ∧
      ∀ i, i < m → ∃ (ys : List (DataW H × List MemPlace)) (n : Nat), D i = .agg (ys.map (·.1)) ∧ Pl i = ys.flatMap (·.2) ∧ ys.length = fs.size ∧
        ∀ (j : Nat) (f : Field), fs[j]? = some f → ∃ (v : Value) (y : DataW H × List MemPlace), w.cell? (a.add (i * fs.size + j)) = some v ∧ ys[j]? = some y ∧ DataW.trod enc P w base spare held n f.type [v] = some y := by
  rcases open_slice ht h with h0 | ⟨a, len, cap, m, n, D, Pl, hcs, hb, hl, hm, hmm, hx, hi⟩
  · exact .inl h0
  · refine .inr ⟨a, len, cap, m, D, Pl, hcs, hb, hl, hm, hmm, by rw [hC] at hx; exact hx, fun i him => ?_⟩
    obtain ⟨cs', hc, ht'⟩ := hi i him
    rw [hC] at hc
    obtain ⟨ys, n', hn', hy, hlen, hyl, hf⟩ := DataW.trod_struct he ht'
    obtain ⟨_, hcl, hat⟩ := World.cells?_some hc
    simp only [Prod.mk.injEq] at hy
    refine ⟨ys, n', hy.1, hy.2, hyl, fun j f hj => ?_⟩
    obtain ⟨ho, hk⟩ := hone_of hone j f hj
    have hjl : j < fs.size := (Array.getElem?_eq_some_iff.1 hj).1
    have hcell := hat j hjl
    have hv : cs'[j]? = some (cs'[j]'(by omega)) := List.getElem?_eq_getElem (by omega)
    have h1 := hf j f hj
    rw [ho, hk] at h1
    have hone' : (cs'.drop j).take 1 = [cs'[j]'(by omega)] := by
      rw [List.drop_eq_getElem_cons (by omega)]
      rfl
    rw [hone'] at h1
    have hys : ys[j]? = some (ys[j]'(by omega)) := List.getElem?_eq_getElem (by omega)
    refine ⟨_, _, ?_, hys, h1.trans hys⟩
    rw [← Go.Deep.add_add, hcell, hv]
end

theorem list_of {α : Type} [Inhabited α] (n : Nat) (p : Nat → α → Prop) (h : ∀ i, i < n → ∃ x, p i x) : ∃ l : List α, l.length = n ∧ ∀ i (h : i < l.length), p i l[i] := by
  have h2 : ∀ i, ∃ x, i < n → p i x := fun i => by
    by_cases hi : i < n
    · obtain ⟨x, hx⟩ := h i hi
      exact ⟨x, fun _ => hx⟩
    · exact ⟨default, fun h => absurd h hi⟩
  refine ⟨(List.range n).map fun i => Classical.choose (h2 i), by simp, fun i hi => ?_⟩
  have hi' : i < n := by simpa using hi
  simpa using Classical.choose_spec (h2 i) hi'

theorem open_points {H : Type} {enc : TypeId × Value → H} {w : World} {base : Nat} {spare : Nat → Bool} {held : Bool} {fuel : Nat} {a : Option Addr} {len cap : Nat} {x : DataW H × List MemPlace} (h : DataW.trod enc Tryz.prog w base spare held fuel 22 [.slice a len cap] = some x) :
    ∃ l : List Pt, l.length = len ∧ RdK ePt 3 w a l ∧ len ≤ cap ∧ cap ≤ maxLen ∧ ∀ x ∈ l, (Lit.int .i64 x.1).wf = true ∧ (Lit.int .i64 x.2.1).wf = true ∧ (Lit.int .u32 x.2.2).wf = true := by
  rcases open_slice_fields Tryz.underlying22 Tryz.underlying34 (by kernel_rfl) (by kernel_rfl) h with ⟨hcs, _⟩ | ⟨ad, len', cap', m, D, Pl, hcs, _, hl, hm, hmm, _, hi⟩
  · simp at hcs
    obtain ⟨rfl, rfl, rfl⟩ := hcs
    exact ⟨[], rfl, .nil, Nat.le_refl _, Nat.zero_le _, by simp⟩
  · simp at hcs
    obtain ⟨rfl, rfl, rfl⟩ := hcs
    have hlm : len ≤ m := by rw [hmm]; split <;> omega
    obtain ⟨l, hll, hp⟩ := list_of len (fun i (p : Pt) => w.cell? (ad.add (i * 3 + 0)) = some (.int .i64 p.1) ∧ w.cell? (ad.add (i * 3 + 1)) = some (.int .i64 p.2.1) ∧ w.cell? (ad.add (i * 3 + 2)) = some (.int .u32 p.2.2) ∧ (Lit.int .i64 p.1).wf = true ∧ (Lit.int .i64 p.2.1).wf = true ∧ (Lit.int .u32 p.2.2).wf = true) (fun i hil => by
      obtain ⟨ys, n, _, _, _, hf⟩ := hi i (by omega)
      obtain ⟨v0, y0, c0, _, t0⟩ := hf 0 _ rfl
      obtain ⟨q0, e0, _, g0⟩ := DataW.trod_int Tryz.underlying2 t0
      simp at e0
      subst e0
      obtain ⟨v1, y1, c1, _, t1⟩ := hf 1 _ rfl
      obtain ⟨q1, e1, _, g1⟩ := DataW.trod_int Tryz.underlying2 t1
      simp at e1
      subst e1
      obtain ⟨v2, y2, c2, _, t2⟩ := hf 2 _ rfl
      obtain ⟨q2, e2, _, g2⟩ := DataW.trod_int Tryz.underlying32 t2
      simp at e2
      subst e2
      exact ⟨⟨q0, q1, q2⟩, c0, c1, c2, g0, g1, g2⟩)
    refine ⟨l, hll, ?_, hl, hm, fun x hx => ?_⟩
    · by_cases h0 : l = []
      · exact .inl h0
      · obtain ⟨b, off, spot⟩ := ad
        have hpos : 0 < l.length := List.length_pos_iff.2 h0
        have h1 := (hp 0 hpos).1
        have hs : spot = none := by simpa [Addr.add] using World.cell?_spot h1
        subst hs
        have hadd : ∀ i, (⟨b, off, none⟩ : Addr).add i = ⟨b, off + i, none⟩ := fun i => by unfold Addr.add; split <;> simp_all
        refine .inr ⟨b, off, rfl, ?_, fun i hi j hj => ?_⟩
        · have := World.block_lt_of_cell? w _ h1
          rw [hadd] at this
          exact this
        · have h2 := hp i hi
          simp only [hadd] at h2
          rw [Nat.add_assoc]
          match j, hj with
          | 0, _ => exact h2.1
          | 1, _ => exact h2.2.1
          | 2, _ => exact h2.2.2.1
    · obtain ⟨i, hi, rfl⟩ := List.getElem_of_mem hx
      exact (hp i hi).2.2.2

set_option maxRecDepth 100000 in
theorem open_point {H : Type} {enc : TypeId × Value → H} {w : World} {base : Nat} {spare : Nat → Bool} {held : Bool} {r : Reach} {b0 : Nat} {v : Value} {d : DataW H} {ps : List MemPlace} (hval : Value.okWide Tryz.prog w r b0 34 v) (hd : DataW.Trod enc Tryz.prog w base spare held 34 v d ps) :
    ∃ p : Pt, v = vPt p.1 p.2.1 p.2.2 ∧ (Lit.int .i64 p.1).wf = true ∧ (Lit.int .i64 p.2.1).wf = true ∧ (Lit.int .u32 p.2.2).wf = true := by
  obtain ⟨v0, v1, v2, y0, y1, y2, n, rfl, _, _, t0, t1, t2⟩ := Go.Joins.open_agg3 Tryz.underlying34 (by kernel_rfl) (by kernel_rfl) hval hd
  obtain ⟨q0, e0, _, g0⟩ := DataW.trod_int Tryz.underlying2 t0
  obtain ⟨q1, e1, _, g1⟩ := DataW.trod_int Tryz.underlying2 t1
  obtain ⟨q2, e2, _, g2⟩ := DataW.trod_int Tryz.underlying32 t2
  simp at e0 e1 e2
  subst e0 e1 e2
  exact ⟨(q0, q1, q2), rfl, g0, g1, g2⟩

end Go.Proofs.YtggfdlanobndjaaGreat

/- Arguments that are boxes, rows of boxes, of bytes, of truths, opened to lists. -/
namespace Go.Proofs.YtggfdlanobndjaaGreat
open Go.RowKit Go.ChangeShapes Go.WideShapes Go.Deep

/-- a box: X1, X2, Y1, Y2, and its name -/
abbrev Bx := Int × Int × Int × Int × Int
def eBx (p : Bx) : List Value := [.int .i64 p.1, .int .i64 p.2.1, .int .i64 p.2.2.1, .int .i64 p.2.2.2.1, .int .u32 p.2.2.2.2]
theorem eBx_len (p : Bx) : (eBx p).length = 5 := rfl
abbrev vBx (p : Bx) : Value := .agg #[.int .i64 p.1, .int .i64 p.2.1, .int .i64 p.2.2.1, .int .i64 p.2.2.2.1, .int .u32 p.2.2.2.2]
abbrev Bx.wf (p : Bx) : Prop := (Lit.int .i64 p.1).wf = true ∧ (Lit.int .i64 p.2.1).wf = true ∧ (Lit.int .i64 p.2.2.1).wf = true ∧ (Lit.int .i64 p.2.2.2.1).wf = true ∧ (Lit.int .u32 p.2.2.2.2).wf = true

theorem array5 {α : Type} {cs : Array α} (h : cs.size = 5) : ∃ c0 c1 c2 c3 c4, cs = #[c0, c1, c2, c3, c4] := by
  obtain ⟨l⟩ := cs
  match l, h with
  | [c0, c1, c2, c3, c4], _ => exact ⟨c0, c1, c2, c3, c4, rfl⟩

section
variable {H : Type} {enc : TypeId × Value → H} {P : Program} {w : World} {base : Nat} {spare : Nat → Bool} {held : Bool}
theorem open_agg_at {r : Reach} {b0 : Nat} {t : TypeId} {fs : Array Field} {v : Value} {d : DataW H} {p : List MemPlace} (hs : P.underlying t = some (.struct fs)) (hone : oneCellFields P fs = true) (hC : P.cellsOf t = fs.size)
    (hv : Value.okWide P w r b0 t v) (h : DataW.Trod enc P w base spare held t v d p) :
    ∃ cs : Array Value, v = .agg cs ∧ cs.size = fs.size ∧ ∃ n, ∀ (i : Nat) (f : Field), fs[i]? = some f → ∃ (u : Value) (y : DataW H × List MemPlace), cs[i]? = some u ∧ DataW.trod enc P w base spare held n f.type [u] = some y := by
  obtain ⟨cs, rfl, hsz⟩ := okWide_struct hs hv
  obtain ⟨fuel, hf⟩ := h
  obtain ⟨xs, n, _, _, hl, hlen, hf⟩ := DataW.trod_struct hs hf
  refine ⟨cs, rfl, hsz.trans hC, n, fun i f hi => ?_⟩
  obtain ⟨ho, hk⟩ := hone_of hone i f hi
  have hil : i < fs.size := (Array.getElem?_eq_some_iff.1 hi).1
  have h1 := hf i f hi
  have hcs : i < cs.size := by omega
  rw [ho, hk] at h1
  have e1 : ((Value.agg cs).cells.toList.drop i).take 1 = [cs[i]] := by
    show (cs.toList.drop i).take 1 = _
    rw [List.drop_eq_getElem_cons (by simpa using hcs)]
    simp
  rw [e1] at h1
  have hx : xs[i]? = some (xs[i]'(by omega)) := List.getElem?_eq_getElem (by omega)
  exact ⟨cs[i], _, by simp [hcs], h1.trans hx⟩

theorem open_bytes4 {r : Reach} {b0 : Nat} {t e : TypeId} {k : IntKind} {v : Value} {d : DataW H} {p : List MemPlace} (ht : P.underlying t = some (.array 4 e)) (he : P.underlying e = some (.int k)) (hc : P.cellsOf e = 1) (hC : P.cellsOf t = 4)
    (hv : Value.okWide P w r b0 t v) (h : DataW.Trod enc P w base spare held t v d p) :
    ∃ a b c d : Int, v = .agg #[.int k a, .int k b, .int k c, .int k d] ∧ (Lit.int k a).wf = true ∧ (Lit.int k b).wf = true ∧ (Lit.int k c).wf = true ∧ (Lit.int k d).wf = true := by
  simp only [Value.okWide, ht] at hv
  obtain ⟨cs, rfl, hsz, _⟩ := hv
  obtain ⟨c0, c1, c2, c3, rfl⟩ := Go.Joins.array4 (hsz.trans hC)
  obtain ⟨fuel, hf⟩ := h
  obtain ⟨xs, m, _, _, _, hl, hel⟩ := DataW.trod_array ht hf
  simp only [hc] at hel
  have g : ∀ (i : Nat) (u : Value), i < 4 → ((Value.agg #[c0, c1, c2, c3]).cells.toList.drop (i * 1)).take 1 = [u] → ∃ q, u = .int k q ∧ (Lit.int k q).wf = true := fun i u hi e1 => by
    have h1 := hel i hi
    rw [e1] at h1
    have hx : xs[i]? = some (xs[i]'(by omega)) := List.getElem?_eq_getElem (by omega)
    obtain ⟨q, e0, _, g0⟩ := DataW.trod_int he (h1.trans hx)
    simp at e0
    exact ⟨q, e0, g0⟩
  obtain ⟨q0, rfl, g0⟩ := g 0 c0 (by decide) rfl
  obtain ⟨q1, rfl, g1⟩ := g 1 c1 (by decide) rfl
  obtain ⟨q2, rfl, g2⟩ := g 2 c2 (by decide) rfl
  obtain ⟨q3, rfl, g3⟩ := g 3 c3 (by decide) rfl
  exact ⟨q0, q1, q2, q3, rfl, g0, g1, g2, g3⟩

theorem open_bool_list {fuel : Nat} {t e : TypeId} {a : Option Addr} {len cap : Nat} {x : DataW H × List MemPlace} (ht : P.underlying t = some (.slice e)) (he : P.underlying e = some .bool) (hc : P.cellsOf e = 1)
    (h : DataW.trod enc P w base (fun _ => true) held fuel t [.slice a len cap] = some x) : ∃ l : List Bool, l.length = len ∧ Rd .bool w a l ∧ len ≤ cap ∧ cap ≤ maxLen := by
  rcases open_bools ht he hc h with ⟨hcs, _⟩ | ⟨ad, len', cap', B, hcs, _, hl, hm, _, hcell⟩
  · simp at hcs
    obtain ⟨rfl, rfl, rfl⟩ := hcs
    exact ⟨[], rfl, .nil, Nat.le_refl _, Nat.zero_le _⟩
  · simp at hcs
    obtain ⟨rfl, rfl, rfl⟩ := hcs
    refine ⟨(List.range len).map B, by simp, ?_, hl, hm⟩
    by_cases h0 : len = 0
    · subst h0; exact .inl rfl
    · obtain ⟨b, off, spot⟩ := ad
      have h1 := hcell 0 (by omega)
      have hs : spot = none := by simpa [Addr.add] using World.cell?_spot h1
      subst hs
      have hadd : ∀ i, (⟨b, off, none⟩ : Addr).add i = ⟨b, off + i, none⟩ := fun i => by unfold Addr.add; split <;> simp_all
      refine .inr ⟨b, off, rfl, ?_, fun i hi => ?_⟩
      · have := World.block_lt_of_cell? w _ h1
        rw [hadd] at this
        exact this
      · have h2 := hcell i (by simp at hi; omega)
        rw [hadd] at h2
        simpa using h2
end

set_option maxRecDepth 100000 in
theorem open_box {H : Type} {enc : TypeId × Value → H} {w : World} {base : Nat} {spare : Nat → Bool} {held : Bool} {r : Reach} {b0 : Nat} {v : Value} {d : DataW H} {ps : List MemPlace} (hval : Value.okWide Tryz.prog w r b0 61 v) (hd : DataW.Trod enc Tryz.prog w base spare held 61 v d ps) :
    ∃ p : Bx, v = vBx p ∧ p.wf := by
  obtain ⟨cs, rfl, hsz, n, hf⟩ := open_agg_at Tryz.underlying61 (by kernel_rfl) (by kernel_rfl) hval hd
  obtain ⟨c0, c1, c2, c3, c4, rfl⟩ := array5 (hsz.trans rfl)
  obtain ⟨u0, y0, z0, t0⟩ := hf 0 _ rfl
  obtain rfl : c0 = u0 := by simpa using z0
  obtain ⟨q0, e0, _, g0⟩ := DataW.trod_int Tryz.underlying2 t0
  simp at e0
  subst e0
  obtain ⟨u1, y1, z1, t1⟩ := hf 1 _ rfl
  obtain rfl : c1 = u1 := by simpa using z1
  obtain ⟨q1, e1, _, g1⟩ := DataW.trod_int Tryz.underlying2 t1
  simp at e1
  subst e1
  obtain ⟨u2, y2, z2, t2⟩ := hf 2 _ rfl
  obtain rfl : c2 = u2 := by simpa using z2
  obtain ⟨q2, e2, _, g2⟩ := DataW.trod_int Tryz.underlying2 t2
  simp at e2
  subst e2
  obtain ⟨u3, y3, z3, t3⟩ := hf 3 _ rfl
  obtain rfl : c3 = u3 := by simpa using z3
  obtain ⟨q3, e3, _, g3⟩ := DataW.trod_int Tryz.underlying2 t3
  simp at e3
  subst e3
  obtain ⟨u4, y4, z4, t4⟩ := hf 4 _ rfl
  obtain rfl : c4 = u4 := by simpa using z4
  obtain ⟨q4, e4, _, g4⟩ := DataW.trod_int Tryz.underlying32 t4
  simp at e4
  subst e4
  exact ⟨(q0, q1, q2, q3, q4), rfl, g0, g1, g2, g3, g4⟩
end Go.Proofs.YtggfdlanobndjaaGreat

/- Boxes and points as they lie in a block of their own. No function of the program is walked here. -/
namespace Go.Proofs.YtggfdlanobndjaaGreat
open Go.RowKit
set_option linter.unusedSimpArgs false

/-- a box as it lies -/
def objBx (p : Bx) : Obj := .cells #[.int .i64 p.1, .int .i64 p.2.1, .int .i64 p.2.2.1, .int .i64 p.2.2.2.1, .int .u32 p.2.2.2.2] 61 (0, 0)
theorem objBx_cells {W : World} {b : Nat} {p : Bx} (h : W.heap[b]? = some (objBx p)) : W.cell? ⟨b, 0, none⟩ = some (.int .i64 p.1) ∧ W.cell? ⟨b, 1, none⟩ = some (.int .i64 p.2.1) ∧ W.cell? ⟨b, 2, none⟩ = some (.int .i64 p.2.2.1) ∧ W.cell? ⟨b, 3, none⟩ = some (.int .i64 p.2.2.2.1) ∧ W.cell? ⟨b, 4, none⟩ = some (.int .u32 p.2.2.2.2) := by simp [World.cell?, h, objBx]

/-- a point as it lies -/
def obP (p : Pt) : Obj := .cells #[.int .i64 p.1, .int .i64 p.2.1, .int .u32 p.2.2] 34 (0, 0)
theorem obP_cells {W : World} {b : Nat} {p : Pt} (h : W.heap[b]? = some (obP p)) : W.cell? ⟨b, 0, none⟩ = some (.int .i64 p.1) ∧ W.cell? ⟨b, 1, none⟩ = some (.int .i64 p.2.1) ∧ W.cell? ⟨b, 2, none⟩ = some (.int .u32 p.2.2) := by simp [World.cell?, h, obP]
end Go.Proofs.YtggfdlanobndjaaGreat

/- gridironref10: Has, Drop. -/
namespace Go.Proofs.YtggfdlanobndjaaGreat
open Go.RowKit
attribute [local irreducible] wpQuiet
set_option linter.unusedSimpArgs false
set_option linter.unusedVariables false

theorem elPt10 : ElemOK Tryz.prog 22 34 3 24 := .mk' (z := .agg #[.int .i64 0, .int .i64 0, .int .u32 0]) Tryz.underlying22 (by kernel_rfl) rfl (by decide)

theorem inB_cases (x1 x2 y1 y2 : Int) (px py pi : Int) :
    (inB x1 x2 y1 y2 (px, py, pi) = true ∧ decide (x1 ≤ px) = true ∧ decide (px ≤ x2) = true ∧ decide (y1 ≤ py) = true ∧ decide (py ≤ y2) = true) ∨
    (inB x1 x2 y1 y2 (px, py, pi) = false ∧ decide (x1 ≤ px) = false) ∨ (inB x1 x2 y1 y2 (px, py, pi) = false ∧ decide (x1 ≤ px) = true ∧ decide (px ≤ x2) = false) ∨
    (inB x1 x2 y1 y2 (px, py, pi) = false ∧ decide (x1 ≤ px) = true ∧ decide (px ≤ x2) = true ∧ decide (y1 ≤ py) = false) ∨
    (inB x1 x2 y1 y2 (px, py, pi) = false ∧ decide (x1 ≤ px) = true ∧ decide (px ≤ x2) = true ∧ decide (y1 ≤ py) = true ∧ decide (py ≤ y2) = false) := by
  unfold inB
  simp only [decide_eq_true_eq, decide_eq_false_iff_not]
  omega

theorem ids_take_in {l : List Pt} {i : Nat} (hi : i < l.length) (f : Pt → Bool) : (f l[i] = true → ids ((l.take (i + 1)).filter f) = ids ((l.take i).filter f) ++ [l[i].2.2]) ∧ (f l[i] = false → ids ((l.take (i + 1)).filter f) = ids ((l.take i).filter f)) := by
  rw [List.take_succ_eq_append_getElem hi, List.filter_append]
  constructor <;> intro h
  · rw [List.filter_cons_of_pos h]
    simp [ids]
  · rw [List.filter_cons_of_neg (by simp [h])]
    simp [ids]

theorem pt_eq_cases (px py pi qx qy qi : Int) :
    (((px, py, pi) : Pt) = (qx, qy, qi) ∧ (px == qx) = true ∧ (py == qy) = true ∧ (pi == qi) = true) ∨
    (((px, py, pi) : Pt) ≠ (qx, qy, qi) ∧ (px == qx) = false) ∨ (((px, py, pi) : Pt) ≠ (qx, qy, qi) ∧ (px == qx) = true ∧ (py == qy) = false) ∨
    (((px, py, pi) : Pt) ≠ (qx, qy, qi) ∧ (px == qx) = true ∧ (py == qy) = true ∧ (pi == qi) = false) := by
  simp only [ne_eq, Prod.mk.injEq, beq_iff_eq, beq_eq_false_iff_ne]
  omega

theorem take_out {l : List Pt} {i : Nat} (hi : i < l.length) (p : Pt) : (l[i] = p → (l.take (i + 1)).filter (fun q => decide (q ≠ p)) = (l.take i).filter (fun q => decide (q ≠ p))) ∧ (l[i] ≠ p → (l.take (i + 1)).filter (fun q => decide (q ≠ p)) = (l.take i).filter (fun q => decide (q ≠ p)) ++ [l[i]]) := by
  rw [List.take_succ_eq_append_getElem hi, List.filter_append]
  constructor <;> intro h
  · rw [List.filter_cons_of_neg (by simp [h])]
    simp
  · rw [List.filter_cons_of_pos (by simp [h])]
    simp

theorem out_less (l : List Pt) (p : Pt) : decide (((l.filter fun q => decide (q ≠ p)).length : Int) < (l.length : Int)) = decide (p ∈ l) := by
  rw [Bool.eq_iff_iff, decide_eq_true_eq, decide_eq_true_eq]
  constructor
  · intro h
    by_cases hp : p ∈ l
    · exact hp
    · exfalso
      have : (l.filter fun q => decide (q ≠ p)) = l := List.filter_eq_self.2 fun q hq => by
        simp only [decide_eq_true_eq]
        rintro rfl
        exact hp hq
      rw [this] at h
      omega
  · intro hp
    have h1 := List.length_filter_le (fun q => decide (q ≠ p)) l
    have h2 : (l.filter fun q => decide (q ≠ p)).length ≠ l.length := fun e => by
      have := List.length_filter_eq_length_iff.1 e p hp
      simp at this
    omega

set_option maxRecDepth 100000 in
set_option maxHeartbeats 4000000 in
theorem ref10_drop (a : Option Addr) (l : List Pt) (n c : Nat) (p : Pt) (w : World) (hn : l.length = n) (h : RdK ePt 3 w a l) (hl : n ≤ 1000000) :
    Calls Tryz.prog 20 #[.slice a n c, vPt p.1 p.2.1 p.2.2] w fun e w' => ∃ v, e = .returned (.tuple #[v, .bool (decide (p ∈ l))]) ∧ w'.ownsRow w.heap.size 34 3 v (l.filter fun q => decide (q ≠ p)).length ((l.filter fun q => decide (q ≠ p)).flatMap ePt) ∧ Below w.heap.size w w' := by
  subst hn
  have H := Lib.hid h
  clear h
  obtain ⟨qx, qy, qi⟩ := p
  go_enter Tryz.func20, Tryz.ntmps20
  obtain ⟨w1, ew1⟩ : ∃ w1, w1 = w.alloc (.cells #[.int .i64 qx, .int .i64 qy, .int .u32 qi] 34) := ⟨_, rfl⟩
  have hb1 : Below w.heap.size w w1 := by rw [ew1]; exact (Below.refl _ _).alloc (Nat.le_refl _) _
  have hs1 : w.heap.size + 1 = w1.heap.size := by rw [ew1]; simp
  have hx1 : w1.heap[w.heap.size]? = some (.cells #[.int .i64 qx, .int .i64 qy, .int .u32 qi] 34 (0, 0)) := by rw [ew1]; show (w.heap.push _)[w.heap.size]? = _; simp
  have EX : w.alloc (.cells #[.int .i64 qx, .int .i64 qy, .int .u32 qi] 34) = w1 := ew1.symm
  clear ew1
  go_wp2
  try rw [EX]
  clear EX
  go_loopw [6, 7] (fun v iv wr => ∃ (i : Nat), iv = .int .i64 i ∧ i ≤ l.length ∧ Hid (wr.ownsRow w1.heap.size 34 3 v ((l.take i).filter fun q => decide (q ≠ (qx, qy, qi))).length (((l.take i).filter fun q => decide (q ≠ (qx, qy, qi))).flatMap ePt)) ∧ Below w1.heap.size w1 wr) (fun _ iv _ => l.length - (intOf iv).toNat)
  case atStart => exact ⟨0, rfl, Nat.zero_le _, by simp; exact World.ownsRow_nil _ _ _ _, Below.refl _ _⟩
  case round =>
    obtain ⟨i, rfl, hi, HO, hb⟩ := hrel
    have hb0 := hb1.trans (hb.mono hb1.size)
    have hss := hb.size
    by_cases hlt : i < l.length
    · obtain ⟨b, off, ea, hbl, hcs⟩ := (H.out.below hb0).get (by omega)
      have x0 := hcs i hlt 0 (by omega)
      have x1' := hcs i hlt 1 (by omega)
      have x2' := hcs i hlt 2 (by omega)
      simp only [ePt, List.getElem?_cons_zero, List.getElem?_cons_succ, Nat.add_zero] at x0 x1' x2'
      have bx := (hb.block w.heap.size (by omega)).trans hx1
      have hlk : ((l.take i).filter fun q => decide (q ≠ (qx, qy, qi))).length ≤ 1000000 := Nat.le_trans (List.length_filter_le _ _) (by rw [List.length_take]; omega)
      have HY : Hid _ := (take_out hlt (qx, qy, qi)).1
      have HX : Hid _ := (take_out hlt (qx, qy, qi)).2
      have EA := Lib.hid ea
      clear hcs ea
      generalize l[i] = p at *
      obtain ⟨px, py, pi⟩ := p
      simp only at x0 x1' x2'
      obtain rfl := EA.out
      clear EA
      generalize ((l.take i).filter fun q => decide (q ≠ (qx, qy, qi))) = L at *
      have b0 : wr.cell? ⟨w.heap.size, 0, none⟩ = some (.int .i64 qx) := by simp [World.cell?, bx]
      have b1 : wr.cell? ⟨w.heap.size, 1, none⟩ = some (.int .i64 qy) := by simp [World.cell?, bx]
      have b2 : wr.cell? ⟨w.heap.size, 2, none⟩ = some (.int .u32 qi) := by simp [World.cell?, bx]
      have hkl : (i : Int) < (l.length : Int) := by omega
      clear bx
      rcases pt_eq_cases px py pi qx qy qi with ⟨hf, d1, d2, d3⟩ | ⟨hf, d1⟩ | ⟨hf, d1, d2⟩ | ⟨hf, d1, d2, d3⟩
      · have HF := Lib.hid (HY.out hf)
        clear hf HY HX
        go_wp2
        go_region
        all_goals
          go_wp2
          go_roundw
          case rel =>
            refine ⟨i + 1, by go_num, by omega, ?_, hb.drew⟩
            show World.ownsRow _ _ _ _ _ _ _
            rw [HF.out]
            exact HO.out.drew
          case measure => simp [intOf]; omega
      all_goals
        have HF := Lib.hid (HX.out hf)
        clear hf HY HX
        go_wp2
        go_region
        all_goals
          have HOA := Lib.hid HO.out.drew
          go_wp2_with (at_builtin; refine wp_append1 elPt10 w1.heap.size HOA.out [.int .i64 px, .int .i64 py, .int .u32 pi] rfl (by simp [Value.oneCell']) rfl _ _ rfl rfl _ rfl (by unfold maxLen; omega) (by omega) hss ?_; intro v' w6 hown' hg; have b6 := below_grown hb.drew HOA.out hg hss (Nat.le_refl _))
          go_roundw
          case rel =>
            refine ⟨i + 1, by go_num, by omega, ?_, b6⟩
            show World.ownsRow _ _ _ _ _ _ _
            rw [HF.out, List.flatMap_append, List.length_append]
            exact hown'
          case measure => simp [intOf]; omega
    · obtain rfl : i = l.length := by omega
      have HO2 := HO.out
      rw [List.take_length] at HO2
      have hol := out_less l (qx, qy, qi)
      obtain ⟨av, cv, rfl, -, -, hr⟩ := RdK.of_owns ePt_len (by decide) HO2
      have HOL := Lib.hid hol
      clear hol
      go_wp2
      go_ret2
      refine ⟨.slice av (l.filter fun q => decide (q ≠ (qx, qy, qi))).length cv, by rw [← HOL.out]; rfl, ?_, hb0⟩
      · exact ⟨HO2.1, by
        rcases HO2.2 with h | ⟨g, cap, cur, e, hg, hrest⟩
        · exact .inl h
        · exact .inr ⟨g, cap, cur, e, Nat.le_trans hb1.size hg, hrest⟩⟩
end Go.Proofs.YtggfdlanobndjaaGreat

/- Reslicing among the operations that a drawn region takes first. No function of the program is walked here. -/
namespace Go.Proofs.YtggfdlanobndjaaGreat
open Go Go.RowKit
set_option linter.unusedSimpArgs false
set_option linter.unusedVariables false

theorem step_hdSlice {P : Program} {ops : Array Oper} {o : Oper} {a : Act} {C : World → Prop} {b : Bool} {K : Act → Prop} {E0 : Prop} {α : Type} {enc : α → List Value} {sz : Nat} {t e : TypeId} {bytes : Nat} (E : ElemOK P t e sz bytes) (ad : Option Addr) (l : List α) (n c m : Nat) (hl : l.length = n) (hc : n ≤ c) (hm : m ≤ n)
    (hgd : o.guard = none) (x hg : Operand) (ho : o.op = .slice t x none (some hg) none) (hx : a.eval x = .slice ad n c) (hhigh : a.eval hg = .int .i64 m)
    (h : ∀ ad', (∀ W, RdK enc sz W ad l → RdK enc sz W ad' (l.take m)) → K (a.put o.dst (.slice ad' m c))) :
    if Region.wanted o (yielded ops a.tmps) = true then Oper.still1 P o a C b K else E0 := by
  subst hl
  have hw : Region.wanted o (yielded ops a.tmps) = true := by simp [Region.wanted, hgd]
  rw [if_pos hw]
  obtain ⟨ht, ⟨i, z, hi', hz, hsize, hby, hzs⟩, hsz⟩ := E
  have hu : ∀ W', (underlying t).run P W' = .ok (.slice e) W' := fun W' => run_underlying ht W'
  have hs : ∀ W', (sizeOf e).run P W' = .ok sz W' := fun W' => by simp [sizeOf, typeInfo, hi', hsize]
  have hhc : m ≤ c := by omega
  refine ⟨.slice (if c = 0 then ad else ad.map (·.add (0 * sz))) m c, fun w _ => ?_, h _ fun W hr => ?_⟩
  · unfold execOp
    simp [ho, hx, hhigh, Instr.sliceAt, Instr.slice, Instr.sliceBounds, Instr.sliceBound, hu, hs, asIntOf, hhc]
  · have := rdk_cut (c := c) hr hc 0 m hm
    rwa [List.drop_zero] at this
end Go.Proofs.YtggfdlanobndjaaGreat
