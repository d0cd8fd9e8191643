/- Package sort: merged: two lists of places whose keys rise, as one. -/
import Derived.Test.YtlhmipjbpbbcbaaKeyB
import Derived.Deep.RegionLaw
namespace Go.Proofs.Ytlhmipjbpbbcbaa
open Go.RowKit

theorem ownsRow_mono {w : World} {base base' : Nat} {e : TypeId} {size : Nat} {v : Value} {n : Nat} {xs : List Value} (h : w.ownsRow base e size v n xs) (hb : base' ≤ base) : w.ownsRow base' e size v n xs := by
  obtain ⟨h1, h2⟩ := h
  refine ⟨h1, ?_⟩
  rcases h2 with h2 | ⟨g, cap, cur, hv, hg, r⟩
  · exact .inl h2
  · exact .inr ⟨g, cap, cur, hv, Nat.le_trans hb hg, r⟩

/-- does the first one stay ahead (the second one is not ahead of it)? -/
def leK (kf : Nat → Int × Int) (x y : Nat) : Bool := !decide (ordK (kf y) (kf x) < 0)

theorem Rd.tail {α : Type} {enc : α → Value} {w : World} {b off : Nat} {x : α} {l : List α} (h : Rd enc w (some ⟨b, off, none⟩) (x :: l)) : Rd enc w (some ⟨b, off + 1, none⟩) l := by
  rcases h with h | ⟨b', off', h, hb, hc⟩
  · cases h
  · cases h
    exact .inr ⟨b, off + 1, rfl, hb, fun i hi => by
      rw [show off + 1 + i = off + (i + 1) by omega]
      exact hc (i + 1) (by simpa using hi)⟩

theorem Rd_of_nil {α : Type} {enc : α → Value} {w : World} {a : Option Addr} {l : List α} (h : l.length = 0) : Rd enc w a l := .inl (List.eq_nil_of_length_eq_zero h)

theorem cell_set_same {w : World} {a : Addr} {u v : Value} (h : w.cell? a = some u) : (w.setCell a v).cell? a = some v := by
  apply World.cell?_setCell_same
  exact h
theorem cell_set_other {w : World} {b b' o o' : Nat} {u v : Value} (hne : b ≠ b') (h : w.cell? ⟨b', o', none⟩ = some u) : (w.setCell ⟨b, o, none⟩ v).cell? ⟨b', o', none⟩ = some u := by
  rw [World.cell?_setCell_other]
  · exact h
  · intro e; cases e; exact hne rfl

theorem setCell_below {B : Nat} {w wr : World} (h : Below B w wr) {b : Nat} (hb : B ≤ b) (v : Value) : Below B w (wr.setCell ⟨b, 0, none⟩ v) := h.setCell hb v

set_option maxRecDepth 100000 in
set_option maxHeartbeats 4000000 in
theorem kMerged (g : Nat) (cb : Array Value) (kf : Nat → Int × Int) (N : Nat) (A B : List Nat) (a a' : Option Addr) (c c' : Nat) (w : World) (h : Rd eNat w a A) (h' : Rd eNat w a' B) (hc1 : A.length ≤ c) (hc2 : B.length ≤ c')
    (hA : ∀ x ∈ A, x < N) (hB : ∀ x ∈ B, x < N) (hsz : A.length + B.length ≤ 1000000)
    (eg : ∀ args w, (callFunc g args).run Try.prog w = .ok (.enter g args) w)
    (hf : ∀ (W : World) (i : Nat), Below w.heap.size w W → i < N → Calls Try.prog g (#[.int .i64 i] ++ cb) W fun e w' => e = .returned (.agg #[.int .i64 (kf i).1, .int .u32 (kf i).2]) ∧ Below W.heap.size W w') :
    Calls Try.prog 56 #[.func (.func g) #[] cb, .slice a A.length c, .slice a' B.length c'] w fun e w' => ∃ v, e = .returned (.tuple #[v, .int .i64 (A.length + B.length : Nat)]) ∧ w'.ownsRow w.heap.size 3 1 v (A.length + B.length) ((A.merge B (leK kf)).map eNat) ∧ Below w.heap.size w w' := by
  obtain ⟨ht, ⟨i, z, hi, hz, hsize, hby, hzs⟩, hes⟩ := elInt
  have HF := Lib.hid hf
  have H := Lib.hid h
  have H' := Lib.hid h'
  have HA := Lib.hid hA
  have HB := Lib.hid hB
  clear hf h h' hA hB
  generalize hM : A.merge B (leK kf) = M
  have HM := Lib.hid hM
  clear hM
  go_enter Try.func56, Try.ntmps56
  go_wp2_with (at_make; refine wpList_make_own _ rfl _ _ 41 rfl (w.heap.size + 2) 3 i z 1 ht hi hz hsize .i64 .i64 _ (A.length + B.length) rfl rfl (by simp) (by rw [hby]; omega) (by unfold maxLen; omega) (by simp) ?_; intro w1 hown1 hg1)
  have b1 : Below w.heap.size w w1 := (((Below.refl _ _).alloc (Nat.le_refl _) _).alloc (by simp) _).grown hg1 (by simp; omega) (fun k hk => by cases hk)
  have x1 : w1.cell? ⟨w.heap.size, 0, none⟩ = some (.slice a A.length c) := hg1.cell (by simp) (by simp)
  have x2 : w1.cell? ⟨w.heap.size + 1, 0, none⟩ = some (.slice a' B.length c') := hg1.cell (by simp) (by simp)
  have x3 : w1.frozen? ⟨w.heap.size, 0, none⟩ = false := by rw [World.frozen?_of_block (w := (w.alloc (.cells #[.slice a A.length c] 41)).alloc (.cells #[.slice a' B.length c'] 41)) (hg1.block _ (by simp; omega) (by simp))]; simp
  have x4 : w1.frozen? ⟨w.heap.size + 1, 0, none⟩ = false := by rw [World.frozen?_of_block (w := (w.alloc (.cells #[.slice a A.length c] 41)).alloc (.cells #[.slice a' B.length c'] 41)) (hg1.block _ (by simp) (by simp))]; simp
  have s1 : w.heap.size + 2 ≤ w1.heap.size := by have := hg1.size; simp at this; omega
  clear hg1 hi hz hsize hby hzs ht hes
  go_loopw [8] (fun v wr => ∃ (A' B' O : List Nat) (aa ab : Option Addr) (ca cbp : Nat), wr.ownsRow (w.heap.size + 2) 3 1 v O.length (O.map eNat) ∧ wr.cell? ⟨w.heap.size, 0, none⟩ = some (.slice aa A'.length ca) ∧ wr.cell? ⟨w.heap.size + 1, 0, none⟩ = some (.slice ab B'.length cbp) ∧
      wr.frozen? ⟨w.heap.size, 0, none⟩ = false ∧ wr.frozen? ⟨w.heap.size + 1, 0, none⟩ = false ∧ A'.length ≤ ca ∧ B'.length ≤ cbp ∧ Hid (Rd eNat w aa A') ∧ Hid (Rd eNat w ab B') ∧ Hid (∀ x ∈ A', x < N) ∧ Hid (∀ x ∈ B', x < N) ∧ Hid (O ++ A'.merge B' (leK kf) = M) ∧
      Hid (O.length + A'.length + B'.length = A.length + B.length) ∧ Below w.heap.size w wr ∧ w.heap.size + 2 ≤ wr.heap.size)
    (fun v _ => match v with | .slice _ n _ => A.length + B.length - n | _ => 0)
  case atStart => exact ⟨A, B, [], a, a', c, c', by simpa using hown1, x1, x2, x3, x4, hc1, hc2, H, H', HA, HB, HM, by simp [Hid], b1, s1⟩
  case round =>
    clear hown1 x1 x2 x3 x4 HA HB HM H H' s1 b1
    obtain ⟨A', B', O, aa, ab, ca, cbp, hown, y1, y2, y3, y4, hca, hcb, RA, RB, LA, LB, HM, HL, hb, hs⟩ := hrel
    obtain ⟨av, cv, rfl, _, _, _⟩ := Rd.of_owns hown
    have HO := Lib.hid hown
    clear hown
    cases A' with
    | nil =>
      have hM2 : M = O ++ B' := by rw [← HM.out, List.nil_merge]
      have hlen := HL.out
      simp only [List.length_nil, Nat.add_zero] at hlen
      have HOd : wr.drew.ownsRow (w.heap.size + 2) 3 1 (.slice av O.length cv) O.length (O.map eNat) := HO.out.drewAny 1
      have R1 : (Builtin.append_ #[41, 41] 41 #[.slice av O.length cv, .slice aa 0 ca]).run Try.prog wr.drew = .ok (.slice av O.length cv) wr.drew := run_append_nothing elInt HOd aa ca
      have rb : Rd eNat wr.drew ab B' := RB.out.below hb.drew
      obtain ⟨v2, w2, R2, hown2, hg2⟩ := run_appendL (ty := 41) (P := Try.prog) elInt (fun _ => rfl) (w.heap.size + 2) HOd rb cbp (by unfold maxLen; omega) (by omega) (by simpa using hs)
      have B2 : Below w.heap.size w w2 := below_grown hb.drew HOd hg2 (Nat.le_trans hb.size (by simp)) (by omega)
      obtain ⟨a2, c2, rfl, hn2, _, _⟩ := Rd.of_owns (l := O ++ B') (enc := eNat) (by simpa using hown2)
      have hown3 : w2.ownsRow w.heap.size 3 1 (.slice a2 (O ++ B').length c2) (A.length + B.length) (M.map eNat) := by
        rw [hM2, List.map_append, ← hlen, List.length_append] at *
        exact ownsRow_mono hown2 (by omega)
      have e9 : (O ++ B').length = A.length + B.length := by rw [List.length_append]; exact hlen
      rw [e9] at hown3 R2
      have HR := Lib.hid hown3
      simp only [List.length_nil] at y1
      clear hown2 hg2 hown3 hM2 HM HL hlen HO HOd rb RA RB LA LB hn2 e9
      have q0 : decide (0 < (0 : Int)) = false := by decide
      go_wp2
      go_region_law (first | (refine step_run_append rfl (.tmp 50) (.tmp 51) rfl R1 (by simp [Act.eval]) (by simp [Act.eval]) ?_) | (refine step_run_append rfl (.tmp 52) (.tmp 53) rfl R2 (by simp [Act.eval]) (by simp [Act.eval]) ?_))
      all_goals go_wp2
      all_goals go_ret2
      all_goals exact ⟨_, rfl, HR.out, B2⟩
    | cons x A2 =>
      cases B' with
      | nil =>
        have hM2 : M = O ++ (x :: A2) := by rw [← HM.out, List.merge_right]
        have hlen := HL.out
        rw [List.length_nil, Nat.add_zero] at hlen
        have HOd : wr.drew.ownsRow (w.heap.size + 2) 3 1 (.slice av O.length cv) O.length (O.map eNat) := HO.out.drewAny 1
        have ra : Rd eNat wr.drew aa (x :: A2) := RA.out.below hb.drew
        obtain ⟨v2, w2, R1, hown2, hg2⟩ := run_appendL (ty := 41) (P := Try.prog) elInt (fun _ => rfl) (w.heap.size + 2) HOd ra ca (by unfold maxLen; omega) (by omega) (by simpa using hs)
        have B2 : Below w.heap.size w w2 := below_grown hb.drew HOd hg2 (Nat.le_trans hb.size (by simp)) (by omega)
        have B3 : Below (w.heap.size + 2) wr.drew w2 := below_grown (Below.refl _ _) HOd hg2 (by simpa using hs) (Nat.le_refl _)
        have z2 := (B3.cell (p := ⟨w.heap.size + 1, 0, none⟩) (by simp)).trans y2
        obtain ⟨a2, c2, rfl, hn2, _, _⟩ := Rd.of_owns (l := O ++ (x :: A2)) (enc := eNat) (by simpa using hown2)
        have R2 : (Builtin.append_ #[41, 41] 41 #[.slice a2 (O ++ (x :: A2)).length c2, .slice ab 0 cbp]).run Try.prog w2 = .ok (.slice a2 (O ++ (x :: A2)).length c2) w2 := run_append_nothing elInt hown2 ab cbp
        have hown3 : w2.ownsRow w.heap.size 3 1 (.slice a2 (O ++ (x :: A2)).length c2) (A.length + B.length) (M.map eNat) := by
          rw [hM2, List.map_append, ← hlen]
          exact ownsRow_mono hown2 (by omega)
        have e9 : (O ++ (x :: A2)).length = A.length + B.length := by rw [List.length_append]; exact hlen
        rw [e9] at hown3 R2 R1
        have HR := Lib.hid hown3
        simp only [List.length_nil] at y2 z2
        clear hown2 hg2 hown3 hM2 HM HL hlen HO HOd ra RA RB LA LB hn2 e9 B3
        go_wp2
        go_region_law (first | (refine step_run_append rfl (.tmp 50) (.tmp 51) rfl R1 (by simp [Act.eval]) (by simp [Act.eval]) ?_) | (refine step_run_append rfl (.tmp 52) (.tmp 53) rfl R2 (by simp [Act.eval]) (by simp [Act.eval]) ?_))
        all_goals go_wp2
        all_goals go_ret2
        all_goals exact ⟨_, rfl, HR.out, B2⟩
      | cons y B2 =>
        have hxN : x < N := LA.out x (by simp)
        have hyN : y < N := LB.out y (by simp)
        have hlen := HL.out
        simp only [List.length_cons] at hlen
        obtain ⟨ba, oa, rfl, hba, hcA⟩ := RA.out.get (by simp)
        obtain ⟨bb, ob, rfl, hbb, hcB⟩ := RB.out.get (by simp)
        have hx := hcA 0 (by simp)
        have hy := hcB 0 (by simp)
        simp only [List.getElem_cons_zero, Nat.add_zero, eNat] at hx hy
        clear hcA hcB
        have TA := Lib.hid (Rd.tail RA.out)
        have TB := Lib.hid (Rd.tail RB.out)
        have LA2 : Hid (∀ z ∈ A2, z < N) := fun z hz => LA.out z (by simp [hz])
        have LB2 : Hid (∀ z ∈ B2, z < N) := fun z hz => LB.out z (by simp [hz])
        have hx1 := (hb.cell (p := ⟨ba, oa, none⟩) hba).trans hx
        have hy1 := (hb.cell (p := ⟨bb, ob, none⟩) hbb).trans hy
        have kx := cell_belowW hx1
        have ky := cell_belowW hy1
        have kb1 := cell_belowW y1
        have kb2 := cell_belowW y2
        have HK : Hid (∀ i, i < N → ∀ p : BelowW wr, Calls Try.prog g (#[.int .i64 i] ++ cb) p.W fun e w' => e = .returned (.agg #[.int .i64 (kf i).1, .int .u32 (kf i).2]) ∧ Below p.W.heap.size p.W w') :=
          fun i hi p => HF.out p.W i (hb.trans (p.h.mono hb.size)) hi
        have RA0 := RA
        have RB0 := RB
        have LA0 := LA
        have LB0 := LB
        clear hx hy RA RB LA LB
        have hmer : Hid ((x :: A2).merge (y :: B2) (leK kf) = if ordK (kf y) (kf x) < 0 then y :: (x :: A2).merge B2 (leK kf) else x :: A2.merge (y :: B2) (leK kf)) := by
          show _ = _
          rw [List.cons_merge_cons]
          unfold leK
          by_cases h : ordK (kf y) (kf x) < 0 <;> simp [h]
        simp only [List.length_cons] at hca hcb y1 y2 kb1 kb2
        by_cases hord : ordK (kf y) (kf x) < 0
        · rw [if_pos hord] at hmer
          have hd : decide (ordK (kf y) (kf x) < 0) = true := by simp [hord]
          go_wp2
          refine wp_region_below (by kernel_rfl) (by kernel_rfl) ?_
          repeat (quiet_step (first | (go_at_fn g; exact calls_below (HK.out _ (by assumption) _)) | (go_at_call 54; exact calls_below (kOrder _ _ _))))
          refine wpQuiet_nil ?_
          intro w5 hw'
          have hb5 : Below wr.heap.size wr w5 := by obtain ⟨p, rfl⟩ := hw'; exact p.h
          clear hw'
          have x5 := (hb5.cell (p := ⟨ba, oa, none⟩) (by show ba < _; omega)).trans hx1
          have y5 := (hb5.cell (p := ⟨bb, ob, none⟩) (by show bb < _; omega)).trans hy1
          have q1 := (hb5.cell (p := ⟨w.heap.size, 0, none⟩) (by show w.heap.size < _; omega)).trans y1
          have q2 := (hb5.cell (p := ⟨w.heap.size + 1, 0, none⟩) (by show w.heap.size + 1 < _; omega)).trans y2
          have q3 := (hb5.frozen (p := ⟨w.heap.size, 0, none⟩) (by show w.heap.size < _; omega)).trans y3
          have q4 := (hb5.frozen (p := ⟨w.heap.size + 1, 0, none⟩) (by show w.heap.size + 1 < _; omega)).trans y4
          have HO5 := ownsRow_below HO.out hb5
          have bw5 := hb.trans (hb5.mono hb.size)
          have hs5 : w.heap.size + 2 ≤ w5.heap.size := Nat.le_trans hs hb5.size
          have hn5 : O.length + 1 ≤ A.length + B.length := by omega
          have HM5 := HM.out
          rw [hmer.out, List.append_cons] at HM5
          have HM6 := Lib.hid HM5
          have HL6 : Hid ((O ++ [y]).length + (x :: A2).length + B2.length = A.length + B.length) := by show _ = _; simp; omega
          clear HM HM5 hmer HO y1 y2 y3 y4 hx1 hy1 kx ky kb1 kb2 HK hb hs hb5 hlen HL
          by_cases hcap1 : cbp = 1
          · subst hcap1
            obtain rfl : B2 = [] := List.eq_nil_of_length_eq_zero (by omega)
            go_wp2_with (at_builtin; refine wp_append1 elInt (w.heap.size + 2) HO5 [.int .i64 y] rfl (by simp [Value.oneCell']) rfl _ _ rfl rfl _ rfl (by unfold maxLen; omega) (by omega) (by omega) ?_; intro v' w6 hown' hg; have B6 := below_grown (Below.refl (w.heap.size + 2) w5) HO5 hg hs5 (Nat.le_refl _); have z1 := (B6.cell (p := ⟨w.heap.size, 0, none⟩) (by simp)).trans q1; have z2 := (B6.cell (p := ⟨w.heap.size + 1, 0, none⟩) (by simp)).trans q2; have z3 := (B6.frozen (p := ⟨w.heap.size, 0, none⟩) (by simp)).trans q3; have z4 := (B6.frozen (p := ⟨w.heap.size + 1, 0, none⟩) (by simp)).trans q4)
            have hfin : ∃ av' cv', v' = .slice av' (O ++ [y]).length cv' := by
              rcases hown'.2 with ⟨_, h9⟩ | ⟨g9, cap9, _, rfl, _⟩
              · omega
              · exact ⟨_, _, by rw [List.length_append]; rfl⟩
            obtain ⟨av', cv', rfl⟩ := hfin
            have hown7 : w6.ownsRow (w.heap.size + 2) 3 1 (.slice av' (O ++ [y]).length cv') (O ++ [y]).length ((O ++ [y]).map eNat) := by simpa [eNat] using hown'
            go_roundw
            case rel => exact ⟨x :: A2, [], O ++ [y], _, _, ca, 0, ownsRow_setCell_below hown7 (by simp) _, cell_set_other (by omega) z1, cell_set_same z2, by rw [World.frozen?_setCell]; exact z3, by rw [World.frozen?_setCell]; exact z4, by omega, by omega, RA0, Lib.hid (Rd_of_nil (by omega)), LA0, LB2, HM6, HL6, setCell_below (bw5.trans (B6.mono (by omega))) (by simp) _, by have := B6.size; simp [World.size_setCell]; omega⟩
            case measure => simp; omega
          · go_wp2_with (at_builtin; refine wp_append1 elInt (w.heap.size + 2) HO5 [.int .i64 y] rfl (by simp [Value.oneCell']) rfl _ _ rfl rfl _ rfl (by unfold maxLen; omega) (by omega) (by omega) ?_; intro v' w6 hown' hg; have B6 := below_grown (Below.refl (w.heap.size + 2) w5) HO5 hg hs5 (Nat.le_refl _); have z1 := (B6.cell (p := ⟨w.heap.size, 0, none⟩) (by simp)).trans q1; have z2 := (B6.cell (p := ⟨w.heap.size + 1, 0, none⟩) (by simp)).trans q2; have z3 := (B6.frozen (p := ⟨w.heap.size, 0, none⟩) (by simp)).trans q3; have z4 := (B6.frozen (p := ⟨w.heap.size + 1, 0, none⟩) (by simp)).trans q4)
            have hfin : ∃ av' cv', v' = .slice av' (O ++ [y]).length cv' := by
              rcases hown'.2 with ⟨_, h9⟩ | ⟨g9, cap9, _, rfl, _⟩
              · omega
              · exact ⟨_, _, by rw [List.length_append]; rfl⟩
            obtain ⟨av', cv', rfl⟩ := hfin
            have hown7 : w6.ownsRow (w.heap.size + 2) 3 1 (.slice av' (O ++ [y]).length cv') (O ++ [y]).length ((O ++ [y]).map eNat) := by simpa [eNat] using hown'
            go_roundw
            case rel => exact ⟨x :: A2, B2, O ++ [y], _, _, ca, cbp - 1, ownsRow_setCell_below hown7 (by simp) _, cell_set_other (by omega) z1, cell_set_same z2, by rw [World.frozen?_setCell]; exact z3, by rw [World.frozen?_setCell]; exact z4, by omega, by omega, RA0, TB, LA0, LB2, HM6, HL6, setCell_below (bw5.trans (B6.mono (by omega))) (by simp) _, by have := B6.size; simp [World.size_setCell]; omega⟩
            case measure => simp; omega
        · rw [if_neg hord] at hmer
          have hd : decide (ordK (kf y) (kf x) < 0) = false := by simp; omega
          go_wp2
          refine wp_region_below (by kernel_rfl) (by kernel_rfl) ?_
          repeat (quiet_step (first | (go_at_fn g; exact calls_below (HK.out _ (by assumption) _)) | (go_at_call 54; exact calls_below (kOrder _ _ _))))
          refine wpQuiet_nil ?_
          intro w5 hw'
          have hb5 : Below wr.heap.size wr w5 := by obtain ⟨p, rfl⟩ := hw'; exact p.h
          clear hw'
          have x5 := (hb5.cell (p := ⟨ba, oa, none⟩) (by show ba < _; omega)).trans hx1
          have y5 := (hb5.cell (p := ⟨bb, ob, none⟩) (by show bb < _; omega)).trans hy1
          have q1 := (hb5.cell (p := ⟨w.heap.size, 0, none⟩) (by show w.heap.size < _; omega)).trans y1
          have q2 := (hb5.cell (p := ⟨w.heap.size + 1, 0, none⟩) (by show w.heap.size + 1 < _; omega)).trans y2
          have q3 := (hb5.frozen (p := ⟨w.heap.size, 0, none⟩) (by show w.heap.size < _; omega)).trans y3
          have q4 := (hb5.frozen (p := ⟨w.heap.size + 1, 0, none⟩) (by show w.heap.size + 1 < _; omega)).trans y4
          have HO5 := ownsRow_below HO.out hb5
          have bw5 := hb.trans (hb5.mono hb.size)
          have hs5 : w.heap.size + 2 ≤ w5.heap.size := Nat.le_trans hs hb5.size
          have hn5 : O.length + 1 ≤ A.length + B.length := by omega
          have HM5 := HM.out
          rw [hmer.out, List.append_cons] at HM5
          have HM6 := Lib.hid HM5
          have HL6 : Hid ((O ++ [x]).length + A2.length + (y :: B2).length = A.length + B.length) := by show _ = _; simp; omega
          clear HM HM5 hmer HO y1 y2 y3 y4 hx1 hy1 kx ky kb1 kb2 HK hb hs hb5 hlen HL
          by_cases hcap1 : ca = 1
          · subst hcap1
            obtain rfl : A2 = [] := List.eq_nil_of_length_eq_zero (by omega)
            go_wp2_with (at_builtin; refine wp_append1 elInt (w.heap.size + 2) HO5 [.int .i64 x] rfl (by simp [Value.oneCell']) rfl _ _ rfl rfl _ rfl (by unfold maxLen; omega) (by omega) (by omega) ?_; intro v' w6 hown' hg; have B6 := below_grown (Below.refl (w.heap.size + 2) w5) HO5 hg hs5 (Nat.le_refl _); have z1 := (B6.cell (p := ⟨w.heap.size, 0, none⟩) (by simp)).trans q1; have z2 := (B6.cell (p := ⟨w.heap.size + 1, 0, none⟩) (by simp)).trans q2; have z3 := (B6.frozen (p := ⟨w.heap.size, 0, none⟩) (by simp)).trans q3; have z4 := (B6.frozen (p := ⟨w.heap.size + 1, 0, none⟩) (by simp)).trans q4)
            have hfin : ∃ av' cv', v' = .slice av' (O ++ [x]).length cv' := by
              rcases hown'.2 with ⟨_, h9⟩ | ⟨g9, cap9, _, rfl, _⟩
              · omega
              · exact ⟨_, _, by rw [List.length_append]; rfl⟩
            obtain ⟨av', cv', rfl⟩ := hfin
            have hown7 : w6.ownsRow (w.heap.size + 2) 3 1 (.slice av' (O ++ [x]).length cv') (O ++ [x]).length ((O ++ [x]).map eNat) := by simpa [eNat] using hown'
            go_roundw
            case rel => exact ⟨[], y :: B2, O ++ [x], _, _, 0, cbp, ownsRow_setCell_below hown7 (by simp) _, cell_set_same z1, cell_set_other (by omega) z2, by rw [World.frozen?_setCell]; exact z3, by rw [World.frozen?_setCell]; exact z4, by omega, by omega, Lib.hid (Rd_of_nil (by omega)), RB0, LA2, LB0, HM6, HL6, setCell_below (bw5.trans (B6.mono (by omega))) (by simp) _, by have := B6.size; simp [World.size_setCell]; omega⟩
            case measure => simp; omega
          · go_wp2_with (at_builtin; refine wp_append1 elInt (w.heap.size + 2) HO5 [.int .i64 x] rfl (by simp [Value.oneCell']) rfl _ _ rfl rfl _ rfl (by unfold maxLen; omega) (by omega) (by omega) ?_; intro v' w6 hown' hg; have B6 := below_grown (Below.refl (w.heap.size + 2) w5) HO5 hg hs5 (Nat.le_refl _); have z1 := (B6.cell (p := ⟨w.heap.size, 0, none⟩) (by simp)).trans q1; have z2 := (B6.cell (p := ⟨w.heap.size + 1, 0, none⟩) (by simp)).trans q2; have z3 := (B6.frozen (p := ⟨w.heap.size, 0, none⟩) (by simp)).trans q3; have z4 := (B6.frozen (p := ⟨w.heap.size + 1, 0, none⟩) (by simp)).trans q4)
            have hfin : ∃ av' cv', v' = .slice av' (O ++ [x]).length cv' := by
              rcases hown'.2 with ⟨_, h9⟩ | ⟨g9, cap9, _, rfl, _⟩
              · omega
              · exact ⟨_, _, by rw [List.length_append]; rfl⟩
            obtain ⟨av', cv', rfl⟩ := hfin
            have hown7 : w6.ownsRow (w.heap.size + 2) 3 1 (.slice av' (O ++ [x]).length cv') (O ++ [x]).length ((O ++ [x]).map eNat) := by simpa [eNat] using hown'
            go_roundw
            case rel => exact ⟨A2, y :: B2, O ++ [x], _, _, ca - 1, cbp, ownsRow_setCell_below hown7 (by simp) _, cell_set_same z1, cell_set_other (by omega) z2, by rw [World.frozen?_setCell]; exact z3, by rw [World.frozen?_setCell]; exact z4, by omega, by omega, TA, RB0, LA2, LB0, HM6, HL6, setCell_below (bw5.trans (B6.mono (by omega))) (by simp) _, by have := B6.size; simp [World.size_setCell]; omega⟩
            case measure => simp; omega

end Go.Proofs.Ytlhmipjbpbbcbaa
