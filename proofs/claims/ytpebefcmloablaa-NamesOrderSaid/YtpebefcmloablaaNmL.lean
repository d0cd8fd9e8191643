/- names.All. -/
import Derived.Test.YtpebefcmloablaaNmA
import Derived.Test.YtpebefcmloablaaU32Q
namespace Go.Proofs.Ytpebefcmloablaa
open Go.RowKit Go.Maps
set_option linter.unusedSimpArgs false
set_option linter.unusedVariables false

/-- is an entry's number alive? -/
def aliveE (al : List Bool) (x : Ent) : Bool := al[x.2.toNat]? == some true
/-- the names that are alive, as the buckets have them -/
def liveIds (al : List Bool) (l : List Ent) : List Int := (l.filter (aliveE al)).map (·.1)
theorem liveIds_app (al : List Bool) (l m : List Ent) : liveIds al (l ++ m) = liveIds al l ++ liveIds al m := by simp [liveIds]
theorem liveIds_le (al : List Bool) (l : List Ent) : (liveIds al l).length ≤ l.length := by unfold liveIds; rw [List.length_map]; exact List.length_filter_le _ _

section
variable {W : World} {base A Cb : Nat} {bv pv lv cv : Value} {bh ch : List Hdr} {al : List Bool} {pl : List Int} {n N wk : Int}

set_option maxRecDepth 100000 in
set_option maxHeartbeats 4000000 in
theorem nm_All (h : NmRep W base A Cb bv pv lv cv bh ch al pl n N wk) (hw : NmWF (ch.map (·.2.1)) (bh.map (·.2.1)) al pl n N) (hlen : bh.length ≤ 1000) (htot : (bh.map (·.2.1)).flatten.length ≤ 10000) :
    Calls Try.prog 34 #[.pointer (some ⟨A, 0, none⟩)] W fun e w' => ∃ v, e = .returned v ∧ w'.ownsRow W.heap.size 31 1 v (liveIds al (bh.map (·.2.1)).flatten).length (((liveIds al (bh.map (·.2.1)).flatten).mergeSort fun x y => decide (x ≤ y)).map (Value.int .u32)) ∧ Below W.heap.size W w' := by
  have CN := Lib.hid (nm_is h)
  have H := Lib.hid h
  have HW := Lib.hid hw
  have HNUM : Hid (∀ x ∈ (bh.map (·.2.1)).flatten, ∃ k : Nat, x.2 = (k : Int) ∧ k < al.length) := fun x hx => hw.nums x ((forall2_mem hw.perm x).1 hx)
  have HTT : Hid (∀ i, ((bh.map (·.2.1)).take i).flatten.length ≤ 10000) := fun i => by
    refine Nat.le_trans ?_ htot
    have e3 : ((bh.map (·.2.1)).take i).flatten ++ ((bh.map (·.2.1)).drop i).flatten = (bh.map (·.2.1)).flatten := by rw [← List.flatten_append, List.take_append_drop]
    have := congrArg List.length e3
    rw [List.length_append] at this
    omega
  have HLL : Hid (∀ i, (liveIds al ((bh.map (·.2.1)).take i).flatten).length ≤ 10000) := fun i => by
    refine Nat.le_trans (liveIds_le _ _) (Nat.le_trans ?_ htot)
    have e3 : ((bh.map (·.2.1)).take i).flatten ++ ((bh.map (·.2.1)).drop i).flatten = (bh.map (·.2.1)).flatten := by rw [← List.flatten_append, List.take_append_drop]
    have := congrArg List.length e3
    rw [List.length_append] at this
    omega
  clear h hw
  go_enter Try.func34, Try.ntmps34
  go_wp2_with fail
  refine CN.out.mono ?_
  rintro e w2 ⟨rfl, hb2⟩
  have R2 := Lib.hid (H.out.below hb2)
  obtain ⟨c0, c1, c2, c3, c4⟩ := R2.out.cell
  obtain ⟨bav, bac, hbv, -, -, hrd⟩ := Rd.of_owns (enc := eHdr) R2.out.brow
  obtain ⟨lav, lac, hlv, -, -, hra⟩ := Rd.of_owns R2.out.arow
  subst hbv hlv
  have HD := Lib.hid hrd
  have HA := Lib.hid hra
  have hAl2 := R2.out.lt
  have KA3 := cell_belowW c3
  have C3 := Lib.hid c3
  have hs2 := hb2.size
  clear hrd hra c0 c2 c3 c4
  go_wp2
  go_loopw [16, 3] (fun kv vv wr => ∃ (i : Nat), kv = .int .i64 i ∧ i ≤ bh.length ∧ Hid (wr.ownsRow w2.heap.size 31 1 vv (liveIds al ((bh.map (·.2.1)).take i).flatten).length ((liveIds al ((bh.map (·.2.1)).take i).flatten).map (Value.int .u32))) ∧ Below w2.heap.size w2 wr) (fun kv _ _ => bh.length - (intOf kv).toNat)
  case atStart => exact ⟨0, rfl, Nat.zero_le _, World.ownsRow_nil _ _ _ _, Below.refl _ _⟩
  case round =>
    obtain ⟨i, rfl, hi, HO, hb⟩ := hrel
    by_cases hlt : i < bh.length
    · obtain ⟨b, off, ea, hbl, hcs⟩ := HD.out.get (by omega)
      have z := (hb.cell (p := ⟨b, off + i, none⟩) hbl).trans (hcs i hlt)
      have hli : i < (bh.map (·.2.1)).length := by simpa using hlt
      have HRD := Lib.hid (fun W' (hW : Below w2.heap.size w2 W') => (R2.out.bE _ (List.getElem_mem hlt)).1.rdk.below hW)
      have HTK : Hid (((bh.map (·.2.1)).take (i + 1)).flatten = ((bh.map (·.2.1)).take i).flatten ++ bh[i].2.1) := by
        show _ = _
        rw [List.take_succ_eq_append_getElem hli, List.flatten_append]
        simp
      have HNI : Hid (∀ x ∈ bh[i].2.1, ∃ k : Nat, x.2 = (k : Int) ∧ k < al.length) := fun x hx => HNUM.out x (List.mem_flatten.2 ⟨_, List.mem_map.2 ⟨_, List.getElem_mem hlt, rfl⟩, hx⟩)
      have hl1 := HLL.out i
      have hzl : bh[i].2.1.length ≤ 10000 := by
        have h1 := HTT.out (i + 1)
        rw [HTK.out, List.length_append] at h1
        omega
      have EA := Lib.hid ea
      unfold eHdr at z
      clear hcs ea
      generalize hP : ((bh.map (·.2.1)).take i).flatten = Pf at *
      have HPf := Lib.hid hP
      clear hP
      generalize bh[i] = hd at *
      obtain ⟨ai, li, ci⟩ := hd
      simp only at z HRD HTK HNI hzl
      obtain rfl := EA.out
      clear EA
      have hlt2 : (i : Int) < (bh.length : Int) := by omega
      obtain ⟨wo, ewo⟩ : ∃ wo : World, wo = wr := ⟨_, rfl⟩
      subst ewo
      have HB := Lib.hid hb
      have hs3 := hb.size
      clear hb
      go_wp2
      go_loopw [22, 3] (fun jv vv wr => ∃ (j : Nat), jv = .int .i64 j ∧ j ≤ li.length ∧ Hid (wr.ownsRow w2.heap.size 31 1 vv (liveIds al (Pf ++ li.take j)).length ((liveIds al (Pf ++ li.take j)).map (Value.int .u32))) ∧ Below w2.heap.size w2 wr) (fun jv _ _ => li.length - (intOf jv).toNat)
      case atStart => exact ⟨0, rfl, Nat.zero_le _, by rw [List.take_zero, List.append_nil]; exact HO, HB.out⟩
      case round =>
        obtain ⟨j, rfl, hj, HO2, hb2'⟩ := hrel
        by_cases hjl : j < li.length
        · obtain ⟨b9, off9, ea9, hbl9, hcs9⟩ := (HRD.out wr hb2').get (by omega)
          have x0 := hcs9 j hjl 0 (by omega)
          have x1 := hcs9 j hjl 1 (by omega)
          simp only [eEnt, List.getElem?_cons_zero, List.getElem?_cons_succ, Nat.add_zero] at x0 x1
          obtain ⟨k, hk, hkl⟩ := HNI.out li[j] (List.getElem_mem hjl)
          obtain ⟨lb, lo, ela, hlb, hlc⟩ := HA.out.get (by omega)
          have za := (hb2'.cell (p := ⟨lb, lo + k, none⟩) hlb).trans (hlc k hkl)
          have zc := (hb2'.cell (p := ⟨A, 3, none⟩) hAl2).trans C3.out
          have HTJ : Hid (liveIds al (Pf ++ li.take (j + 1)) = liveIds al (Pf ++ li.take j) ++ (if al[k] = true then [li[j].1] else [])) := by
            show _ = _
            rw [List.take_succ_eq_append_getElem hjl, ← List.append_assoc, liveIds_app]
            congr 1
            unfold liveIds aliveE
            rw [List.filter_cons, hk]
            simp only [Int.toNat_natCast, List.getElem?_eq_getElem hkl]
            cases al[k] <;> simp
          have hjt : (liveIds al (Pf ++ li.take j)).length ≤ 10000 := by
            have h1 := HLL.out (i + 1)
            rw [HTK.out] at h1
            refine Nat.le_trans ?_ h1
            have h2 : Pf ++ li = (Pf ++ li.take j) ++ li.drop j := by rw [List.append_assoc, List.take_append_drop]
            rw [h2, liveIds_app al (Pf ++ li.take j), List.length_append]
            omega
          rw [hk] at x1
          have EA9 := Lib.hid ea9
          have ELA := Lib.hid ela
          clear hcs9 ea9 hlc ela hk
          generalize liveIds al (Pf ++ li.take j) = L1 at *
          generalize hbb : al[k] = bb at *
          generalize li[j] = x at *
          obtain ⟨xi, xk⟩ := x
          simp only at x0 x1 HTJ
          obtain rfl := EA9.out
          obtain rfl := ELA.out
          clear EA9 ELA hbb
          have hjl2 : (j : Int) < (li.length : Int) := by omega
          have hkl2 : (k : Int) < (al.length : Int) := by omega
          have hs9 := hb2'.size
          have BA : Below wr.heap.size wr (wr.alloc (.cells #[.int .u32 xi, .int .i64 (k : Int)] 86)) := (Below.refl _ _).alloc (Nat.le_refl _) _
          have r0 : (wr.alloc (.cells #[.int .u32 xi, .int .i64 (k : Int)] 86)).cell? ⟨wr.heap.size, 0, none⟩ = some (.int .u32 xi) := by rw [World.cell?_alloc_at _ _ _ _ rfl]; rfl
          have r1 : (wr.alloc (.cells #[.int .u32 xi, .int .i64 (k : Int)] 86)).cell? ⟨wr.heap.size, 1, none⟩ = some (.int .i64 (k : Int)) := by rw [World.cell?_alloc_at _ _ _ _ rfl]; rfl
          have za2 := (BA.cell (p := ⟨lb, lo + k, none⟩) (World.block_lt_of_cell? wr _ za)).trans za
          have zc2 := (BA.cell (p := ⟨A, 3, none⟩) (World.block_lt_of_cell? wr _ zc)).trans zc
          have HOA := Lib.hid ((HO2.out.alloc (.cells #[.int .u32 xi, .int .i64 (k : Int)] 86)).drewAny 1)
          have HBA := Lib.hid ((hb2'.alloc hs9 (.cells #[.int .u32 xi, .int .i64 (k : Int)] 86)).drew)
          have hws : W.heap.size ≤ wr.heap.size := by omega
          cases bb
          · rw [if_neg (by decide), List.append_nil] at HTJ
            clear BA
            go_wp2
            go_region
            all_goals
              go_wp2
              go_roundw
              case rel => exact ⟨j + 1, by go_num, by omega, by rw [HTJ.out]; exact HOA, HBA.out⟩
              case measure => simp [intOf]; omega
          · rw [if_pos rfl] at HTJ
            clear BA
            have HTJ2 : Hid (liveIds al (Pf ++ li.take (j + 1)) = L1 ++ [xi]) := HTJ.out
            go_wp2
            go_region
            have r0d : ((wr.alloc (.cells #[.int .u32 xi, .int .i64 (k : Int)] 86)).drew).cell? ⟨wr.heap.size, 0, none⟩ = some (.int .u32 xi) := r0
            go_wp2_with (at_builtin; refine wp_append1 elU32 w2.heap.size HOA.out [.int .u32 xi] rfl (by simp [Value.oneCell']) rfl _ _ rfl rfl _ (by show Value.slice (some ⟨wr.heap.size + 1, 0, none⟩) 1 1 = _; simp) (by unfold maxLen; omega) (by omega) (by simp; omega) ?_; intro v' w6 hown' hg)
            have b6 : Below w2.heap.size w2 w6 := HBA.out.grown hg (by simp; omega) (fun b e => (HOA.out.lt b e).1)
            go_roundw
            case rel => exact ⟨j + 1, by go_num, by omega, by rw [HTJ2.out, List.length_append, List.map_append]; exact hown', b6⟩
            case measure => simp [intOf]; omega
        · obtain rfl : j = li.length := by omega
          rw [List.take_length, ← HTK.out] at HO2
          go_wp2
          go_roundw
          case rel => exact ⟨i + 1, by go_num, by omega, HO2, hb2'⟩
          case measure => simp [intOf]; omega
    · obtain rfl : i = bh.length := by omega
      rw [List.take_of_length_le (by simp)] at HO
      have hl1 := HLL.out bh.length
      rw [List.take_of_length_le (by simp)] at hl1
      have hs3 := hb.size
      have HB := Lib.hid (hb2.trans (hb.mono hs2))
      have HOW := HO.out
      generalize hL : liveIds al (bh.map (·.2.1)).flatten = L at *
      have HLQ := Lib.hid hL
      clear hL
      rcases HOW.2 with ⟨e0, h0⟩ | ⟨g, cap, cur, e0, hg, hh, hcc, hm, hs, htk⟩
      · obtain rfl : L = [] := List.eq_nil_of_length_eq_zero h0
        subst e0
        have C := Lib.hid (sort32_none none 0 wr)
        go_wp2_with fail
        refine C.out.mono ?_
        rintro e w5 ⟨rfl, rfl⟩
        go_wp2
        go_ret
        exact ⟨.slice none 0 0, rfl, (by have := World.ownsRow_nil w5 W.heap.size 31 1; rw [HLQ.out]; simpa using this), HB.out⟩
      · subst e0
        rw [Nat.mul_one] at hs htk
        have hlt9 := (Array.getElem?_eq_some_iff.1 hh).1
        have hhold : Sort.Holds (Value.int .u32) wr g 0 L.toArray := holds_of_block hh (by simpa using htk)
        have C := Lib.hid (sort32 g 0 cap L wr hhold hlt9 (by omega))
        go_wp2_with fail
        refine C.out.mono ?_
        rintro e w5 ⟨rfl, q, os, rfl⟩
        obtain ⟨cur2, hh2, hs2', htk2, hown2⟩ := owns_putRow (l := L) (enc := Value.int .u32) (l' := L.mergeSort fun x y => decide (x ≤ y)) hg hh hcc hm hs (List.length_mergeSort L) q os
        have hbel2 := grow_below (Value.int .u32) w2.heap.size wr q g (L.mergeSort fun x y => decide (x ≤ y)).toArray os hg hs3
        rw [List.length_mergeSort] at hown2
        go_wp2
        go_ret
        exact ⟨.slice (some ⟨g, 0, none⟩) L.length cap, rfl, (by rw [HLQ.out]; exact rowMono hown2 hs2), HB.out.trans (hbel2.mono hs2)⟩
end

end Go.Proofs.Ytpebefcmloablaa
