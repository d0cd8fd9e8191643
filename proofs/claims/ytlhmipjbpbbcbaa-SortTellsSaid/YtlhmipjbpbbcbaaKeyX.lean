/- gridironref03: Once: what it answers. -/
import Derived.Test.YtlhmipjbpbbcbaaKeyV
namespace Go.Proofs.Ytlhmipjbpbbcbaa
open Go.RowKit

set_option maxRecDepth 100000 in
set_option maxHeartbeats 4000000 in
theorem refOnce (a : Option Addr) (l : List Int) (c : Nat) (w : World) (h : Rd (.int .u32) w a l) (hl : l.length ≤ 1000000) :
    Calls Try.prog 36 #[.slice a l.length c] w fun e w' => ∃ v, e = .returned v ∧ w'.ownsRow w.heap.size 52 1 v (sqz l).length ((sqz l).map (.int .u32)) ∧ Below w.heap.size w w' := by
  have H := Lib.hid h
  have HSQ : Hid (∀ S : List Int, S.Pairwise (· < ·) → (∀ x, x ∈ S ↔ x ∈ l) → sqz l = S) := sqz_of l
  clear h
  generalize sqz l = sq at *
  go_enter Try.func36, Try.ntmps36
  go_wp2
  go_loopw [3, 4] (fun v iv wr => ∃ (i : Nat) (S : List Int), iv = .int .i64 i ∧ i ≤ l.length ∧ S.length ≤ i ∧ Hid (wr.ownsRow w.heap.size 52 1 v S.length (S.map (.int .u32))) ∧ Hid (S.Pairwise (· < ·)) ∧ Hid (∀ x, x ∈ S ↔ x ∈ l.take i) ∧ Below w.heap.size w wr) (fun _ iv _ => l.length - (intOf iv).toNat)
  case atStart => exact ⟨0, [], rfl, Nat.zero_le _, Nat.zero_le _, World.ownsRow_nil _ _ _ _, List.Pairwise.nil, by intro x; simp, Below.refl _ _⟩
  case round =>
    obtain ⟨i, S, rfl, hi, hSi, HO, HP, HM, hb⟩ := hrel
    by_cases hlt : i < l.length
    · obtain ⟨av, cv, rfl, -, -, -⟩ := Rd.of_owns HO.out
      obtain ⟨b, off, ea, hbl, hc⟩ := H.out.get (by omega)
      have hxc := hc i hlt
      have ET : Hid (l.take (i + 1) = l.take i ++ [l[i]]) := List.take_succ_eq_append_getElem hlt
      clear hc
      generalize l[i] = x at *
      have HO0 := HO
      have hb0 := hb
      clear HO hb
      subst ea
      go_wp2
      go_loopw [5] (fun kv wr => ∃ k : Nat, kv = .int .i64 k ∧ k ≤ S.length ∧ Hid (wr.ownsRow w.heap.size 52 1 (.slice av S.length cv) S.length (S.map (.int .u32))) ∧ Hid (∀ t (h : t < S.length), t < k → S[t] < x) ∧ Below w.heap.size w wr) (fun kv _ => S.length - (intOf kv).toNat)
      case atStart => exact ⟨0, rfl, Nat.zero_le _, HO0, fun t _ ht => absurd ht (Nat.not_lt_zero _), hb0⟩
      case round =>
        clear HO0 hb0
        obtain ⟨k, rfl, hk, HO, HL, hb⟩ := hrel
        have hx := (hb.cell (p := ⟨b, off + i, none⟩) hbl).trans hxc
        have hlo : ∀ y ∈ S.take k, y < x := by
          intro y hy
          obtain ⟨t, ht, rfl⟩ := List.getElem_of_mem hy
          rw [List.getElem_take]
          simp at ht
          exact HL.out t (by omega) (by omega)
        have hi0 : (0 : Int) ≤ (i : Int) := by omega
        have hi1 : (i : Int) < (l.length : Int) := by omega
        have hk0 : (0 : Int) ≤ (k : Int) := by omega
        by_cases hkm : k < S.length
        · obtain ⟨g, cv', ev, -, -, -, -⟩ := ownRow_at HO.out (by omega)
          injection ev with ev1 ev2 ev3
          subst ev1
          have c1 := HO.out.cellAt k (by omega)
          rw [List.getElem?_map, List.getElem?_eq_getElem hkm, Option.map_some] at c1
          have hdk : decide (k < S.length) = true := by simp [hkm]
          have hk1 : (k : Int) < (S.length : Int) := by omega
          have HLn := Lib.hid HL.out
          clear HL ev2 ev3
          by_cases hsx : S[k] < x
          · have HL2 : Hid (∀ t (h : t < S.length), t < k + 1 → S[t] < x) := by
              intro t h ht
              by_cases e : t = k
              · subst e; exact hsx
              · exact HLn.out t h (by omega)
            have hd : decide (S[k] < x) = true := by simp [hsx]
            clear HLn hlo
            generalize S[k] = y at *
            go_wp2
            go_quiet (fail)
            go_wp2
            go_roundw
            case rel => exact ⟨k + 1, by go_num, by omega, HO.out.drewAny _, HL2, hb.trans (Below.drewAny _ _)⟩
            case measure => simp [intOf]; omega
          · have hd : decide (S[k] < x) = false := by simp; omega
            by_cases hex : S[k] = x
            · have HMx : Hid (∀ y, y ∈ S ↔ y ∈ l.take (i + 1)) := by
                intro y
                rw [ET.out, List.mem_append, ← HM.out]
                constructor
                · exact .inl
                · rintro (h | h)
                  · exact h
                  · simp at h
                    rw [h, ← hex]
                    exact List.getElem_mem _
              have hd2 : (S[k] == x) = true := by simp [hex]
              clear HLn hlo hex
              generalize S[k] = y at *
              go_wp2
              go_quiet (fail)
              go_wp2
              go_quiet (fail)
              go_wp2
              go_roundw
              case rel => exact ⟨i + 1, S, by go_num, by omega, by omega, HO.out.drewAny _, HP, HMx, hb.trans (Below.drewAny _ _)⟩
              case measure => simp [intOf]; omega
            · have hge : ∀ y ∈ S.drop k, x < y := by
                intro y hy
                obtain ⟨t, ht, rfl⟩ := List.getElem_of_mem hy
                rw [List.getElem_drop]
                simp at ht
                by_cases e : t = 0
                · subst e
                  simp only [Nat.add_zero]
                  omega
                · have := List.pairwise_iff_getElem.1 HP.out k (k + t) hkm (by omega) (by omega)
                  omega
              have hd2 : (S[k] == x) = false := by simp [hex]
              clear HLn hex
              generalize S[k] = y0 at *
              have Hge := Lib.hid hge
              have Hlo := Lib.hid hlo
              clear hge hlo
              go_wp2
              go_quiet (fail)
              have HO2 : Hid ((wr.drewN nq).ownsRow w.heap.size 52 1 (.slice (some ⟨g, 0, none⟩) S.length cv) S.length (S.map (.int .u32))) := HO.out.drewAny nq
              have hb2 := hb.trans (Below.drewAny _ nq)
              have hx2 : (wr.drewN nq).cell? ⟨b, off + i, none⟩ = some (.int .u32 x) := hx
              have c2 : (wr.drewN nq).cell? ⟨g, k, none⟩ = some (.int .u32 y0) := c1; clear c1; have c1 := c2; clear c2
              clear HO hb hx
              generalize wr.drewN nq = w5 at *
              have HO := HO2
              have hb := hb2
              have hx := hx2
              clear HO2 hb2 hx2
              go_wp2
              go_quiet (fail)
              have HO2 : Hid ((w5.drewN nq).ownsRow w.heap.size 52 1 (.slice (some ⟨g, 0, none⟩) S.length cv) S.length (S.map (.int .u32))) := HO.out.drewAny nq
              have hb2 := hb.trans (Below.drewAny _ nq)
              clear HO hb hx c1
              generalize w5.drewN nq = w6 at *
              have HO := HO2
              have hb := hb2
              have hge := Hge.out
              have hlo := Hlo.out
              clear HO2 hb2 Hge Hlo
              have HNS := Lib.hid (insA_pairwise (R := (· < ·)) HP.out hge hlo)
              have HNM : Hid (∀ y, y ∈ insA S k x ↔ y ∈ l.take (i + 1)) := by
                intro y
                rw [insA_mem, HM.out, ET.out]
                simp
              have HNL := Lib.hid (insA_len S k x hk)
              clear hge hlo
              go_wp2_with (at_builtin; refine wp_append1 elU32 w.heap.size HO.out [.int .u32 0] rfl (by simp [Value.oneCell']) rfl _ _ rfl rfl _ rfl (by unfold maxLen; omega) (by omega) (Nat.le_trans hb.size (by simp)) ?_; intro v' w6 hown' hg; have b6 := below_grown hb HO.out hg (Nat.le_trans hb.size (by simp)) (Nat.le_refl _); obtain ⟨g, cv', rfl, hg1, hg2, hg3, hg4⟩ := ownRow_at hown' (by omega))
              have HO6 : Hid (w6.ownsRow w.heap.size 52 1 (.slice (some ⟨g, 0, none⟩) (S.length + 1) cv') (S.length + 1) ((insA S S.length 0).map (Value.int .u32))) := by
                have e1 := insA_top S (0 : Int)
                show w6.ownsRow _ _ _ _ _ _
                rw [e1, List.map_append]
                exact hown'
              clear hown' hg HO hb
              unfold maxLen at hg4
              go_loopw [6] (fun jv wr => ∃ (j : Nat) (z : Int), jv = .int .i64 j ∧ k ≤ j ∧ j ≤ S.length ∧ Hid (wr.ownsRow w.heap.size 52 1 (.slice (some ⟨g, 0, none⟩) (S.length + 1) cv') (S.length + 1) ((insA S j z).map (Value.int .u32))) ∧ Below w.heap.size w wr) (fun jv _ => (intOf jv).toNat)
              case atStart => exact ⟨S.length, 0, by go_num, hk, Nat.le_refl _, HO6, b6⟩
              case round =>
                clear b6 HO6
                obtain ⟨j, z, rfl, hj1, hj2, HO, hb⟩ := hrel
                have hil := insA_len S j z hj2
                by_cases hjk : k < j
                · have c1 := HO.out.cellAt j (by omega)
                  have c2 := HO.out.cellAt (j - 1) (by omega)
                  have f1 := HO.out.frozenAt j
                  rw [List.getElem?_map, List.getElem?_eq_getElem (by omega), insA_get S j z hj2, Option.map_some] at c1
                  rw [List.getElem?_map, List.getElem?_eq_getElem (by omega), insA_prev S j z (by omega) hj2, Option.map_some] at c2
                  have HSW : Hid (((insA S j z).map (Value.int .u32)).set j (Value.int .u32 S[j - 1]) = (insA S (j - 1) S[j - 1]).map (Value.int .u32)) := by
                    show _ = _
                    rw [← insA_shift S j z (by omega) hj2, List.map_set]
                  generalize S[j - 1] = y at *
                  have e1 : ((j : Int) - 1).toNat = j - 1 := by omega
                  have g0 : (0 : Int) ≤ (j : Int) - 1 := by omega
                  have g2 : (j : Int) < (S.length : Int) + 1 := by omega
                  have g3 : (j : Int) - 1 ≤ (S.length : Int) := by omega
                  have g4 : (j : Int) ≤ (S.length : Int) + 1 := by omega
                  have g5 : (1 : Int) ≤ (j : Int) := by omega
                  have g6 : j ≤ S.length + 1 := by omega
                  have g7 : 1 ≤ j := by omega
                  clear hil
                  go_wp2
                  go_roundw
                  case rel =>
                    refine ⟨j - 1, y, by go_num, by omega, by omega, ?_, hb.setCell hg1 _⟩
                    show World.ownsRow _ _ _ _ _ _ _
                    rw [← HSW.out]
                    exact (HO.out.stored j _).1
                  case measure => simp [intOf]; omega
                · obtain rfl : j = k := by omega
                  have c1 := HO.out.cellAt j (by omega)
                  have f1 := HO.out.frozenAt j
                  rw [List.getElem?_map, List.getElem?_eq_getElem (by omega), insA_get S j z hj2, Option.map_some] at c1
                  have HSW : Hid (((insA S j z).map (Value.int .u32)).set j (Value.int .u32 x) = (insA S j x).map (Value.int .u32)) := by
                    show _ = _
                    rw [← insA_set S j z x hj2, List.map_set]
                  have hx := (hb.cell (p := ⟨b, off + i, none⟩) hbl).trans hxc
                  have g2 : (j : Int) < (S.length : Int) + 1 := by omega
                  clear hil
                  go_wp2
                  go_roundw
                  case rel =>
                    refine ⟨i + 1, insA S j x, by go_num, by omega, by rw [HNL.out]; omega, ?_, HNS, HNM, hb.setCell hg1 _⟩
                    show World.ownsRow _ _ _ _ _ _ _
                    rw [← HSW.out, HNL.out]
                    exact (HO.out.stored j _).1
                  case measure => simp [intOf]; omega
        · obtain rfl : k = S.length := by omega
          have hge : ∀ y ∈ S.drop S.length, x < y := by simp
          have Hge := Lib.hid hge
          have Hlo := Lib.hid hlo
          have hdk : decide (S.length < S.length) = false := by simp
          clear hge hlo HL hkm
          have hk1 : ¬ ((S.length : Int) < (S.length : Int)) := by omega
          go_wp2
          go_quiet (fail)
          have HO2 : Hid ((wr.drewN nq).ownsRow w.heap.size 52 1 (.slice av S.length cv) S.length (S.map (.int .u32))) := HO.out.drewAny nq
          have hb2 := hb.trans (Below.drewAny _ nq)
          have hx2 : (wr.drewN nq).cell? ⟨b, off + i, none⟩ = some (.int .u32 x) := hx
          clear HO hb hx
          generalize wr.drewN nq = w5 at *
          have HO := HO2
          have hb := hb2
          have hx := hx2
          clear HO2 hb2 hx2
          go_wp2
          go_quiet (fail)
          have HO2 : Hid ((w5.drewN nq).ownsRow w.heap.size 52 1 (.slice av S.length cv) S.length (S.map (.int .u32))) := HO.out.drewAny nq
          have hb2 := hb.trans (Below.drewAny _ nq)
          clear HO hb hx
          generalize w5.drewN nq = w6 at *
          have HO := HO2
          have hb := hb2
          have hge := Hge.out
          have hlo := Hlo.out
          clear HO2 hb2 Hge Hlo
          have HNS := Lib.hid (insA_pairwise (R := (· < ·)) HP.out hge hlo)
          have HNM : Hid (∀ y, y ∈ insA S S.length x ↔ y ∈ l.take (i + 1)) := by
            intro y
            rw [insA_mem, HM.out, ET.out]
            simp
          have HNL := Lib.hid (insA_len S S.length x hk)
          clear hge hlo
          go_wp2_with (at_builtin; refine wp_append1 elU32 w.heap.size HO.out [.int .u32 0] rfl (by simp [Value.oneCell']) rfl _ _ rfl rfl _ rfl (by unfold maxLen; omega) (by omega) (Nat.le_trans hb.size (by simp)) ?_; intro v' w6 hown' hg; have b6 := below_grown hb HO.out hg (Nat.le_trans hb.size (by simp)) (Nat.le_refl _); obtain ⟨g, cv', rfl, hg1, hg2, hg3, hg4⟩ := ownRow_at hown' (by omega))
          have HO6 : Hid (w6.ownsRow w.heap.size 52 1 (.slice (some ⟨g, 0, none⟩) (S.length + 1) cv') (S.length + 1) ((insA S S.length 0).map (Value.int .u32))) := by
            have e1 := insA_top S (0 : Int)
            show w6.ownsRow _ _ _ _ _ _
            rw [e1, List.map_append]
            exact hown'
          clear hown' hg HO hb
          unfold maxLen at hg4
          go_loopw [6] (fun jv wr => ∃ (j : Nat) (z : Int), jv = .int .i64 j ∧ S.length ≤ j ∧ j ≤ S.length ∧ Hid (wr.ownsRow w.heap.size 52 1 (.slice (some ⟨g, 0, none⟩) (S.length + 1) cv') (S.length + 1) ((insA S j z).map (Value.int .u32))) ∧ Below w.heap.size w wr) (fun jv _ => (intOf jv).toNat)
          case atStart => exact ⟨S.length, 0, by go_num, hk, Nat.le_refl _, HO6, b6⟩
          case round =>
            clear b6 HO6
            obtain ⟨j, z, rfl, hj1, hj2, HO, hb⟩ := hrel
            have hil := insA_len S j z hj2
            by_cases hjk : S.length < j
            · exfalso; omega
            · obtain rfl : j = S.length := by omega
              have c1 := HO.out.cellAt S.length (by omega)
              have f1 := HO.out.frozenAt S.length
              rw [List.getElem?_map, List.getElem?_eq_getElem (by omega), insA_get S S.length z hj2, Option.map_some] at c1
              have HSW : Hid (((insA S S.length z).map (Value.int .u32)).set S.length (Value.int .u32 x) = (insA S S.length x).map (Value.int .u32)) := by
                show _ = _
                rw [← insA_set S S.length z x hj2, List.map_set]
              have hx := (hb.cell (p := ⟨b, off + i, none⟩) hbl).trans hxc
              have g2 : (S.length : Int) < (S.length : Int) + 1 := by omega
              clear hil
              go_wp2
              go_roundw
              case rel =>
                refine ⟨i + 1, insA S S.length x, by go_num, by omega, by rw [HNL.out]; omega, ?_, HNS, HNM, hb.setCell hg1 _⟩
                show World.ownsRow _ _ _ _ _ _ _
                rw [← HSW.out, HNL.out]
                exact (HO.out.stored S.length _).1
              case measure => simp [intOf]; omega
    · obtain rfl : i = l.length := by omega
      have hm := HM.out
      rw [List.take_length] at hm
      have e1 := HSQ.out S HP.out hm
      subst e1
      clear HSQ hm HM hlt
      go_wp2
      go_ret
      exact ⟨_, rfl, HO.out, hb⟩

end Go.Proofs.Ytlhmipjbpbbcbaa
