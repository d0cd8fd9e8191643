/- rises of chapter 3: true of places that come each once and by which the keys rise. -/
import Derived.Test.YtlhmipjbpbbcbaaKeyQ
import Derived.Deep.OwnRows
namespace Go.Proofs.Ytlhmipjbpbbcbaa
open Go.RowKit

/-- what stands at i + 1 may follow what stands at i -/
def mayK (l : List (Int × Int)) (p q : Nat) : Prop :=
  ordK (l.getD p (0, 0)) (l.getD q (0, 0)) < 0 ∨ (l.getD p (0, 0) = l.getD q (0, 0) ∧ p < q)

theorem ordK_lt (a b : Int × Int) : ordK a b < 0 ↔ a.1 < b.1 ∨ a.1 = b.1 ∧ a.2 < b.2 := by
  obtain ⟨a1, a2⟩ := a
  obtain ⟨b1, b2⟩ := b
  simp only [ordK, cmpI]
  by_cases h1 : a1 < b1
  · simp [h1]
  · by_cases h2 : b1 < a1
    · simp only [h1, h2, if_false, if_true]
      simp
      omega
    · have : a1 = b1 := by omega
      subst this
      simp only [Int.lt_irrefl, if_false, if_true, false_or, true_and]
      by_cases h3 : a2 < b2
      · simp [h3]
      · by_cases h4 : b2 < a2
        · simp [h3, h4]
        · simp [h3, h4]

theorem mayK_test {l : List (Int × Int)} {p q : Nat} (h : mayK l p q) (hp : p < l.length) (hq : q < l.length) :
    decide (l[q].1 < l[p].1) = false ∧ (l[q].1 = l[p].1 → decide (l[q].2 < l[p].2) = false) ∧ (l[p] = l[q] → decide ((q : Int) < (p : Int)) = false) := by
  unfold mayK at h
  rw [ordK_lt] at h
  simp only [List.getD_eq_getElem?_getD, List.getElem?_eq_getElem hp, List.getElem?_eq_getElem hq, Option.getD_some] at h
  refine ⟨?_, ?_, ?_⟩
  · rcases h with h | ⟨h, _⟩
    · simp; omega
    · rw [h]; simp
  · intro e
    rcases h with h | ⟨h, _⟩
    · simp; omega
    · rw [h]; simp
  · intro e
    rcases h with h | ⟨_, h⟩
    · rw [e] at h; omega
    · simp; omega

/-- ahead of: by keys, then by number -/
def aheadP (kf : Nat → Int × Int) (p q : Nat) : Prop := ordK (kf p) (kf q) < 0 ∨ (kf p = kf q ∧ p < q)

theorem aheadP_iff (kf : Nat → Int × Int) (p q : Nat) : aheadP kf p q ↔ (kf p).1 < (kf q).1 ∨ (kf p).1 = (kf q).1 ∧ ((kf p).2 < (kf q).2 ∨ (kf p).2 = (kf q).2 ∧ p < q) := by
  unfold aheadP
  rw [ordK_lt, Prod.ext_iff]
  constructor
  · rintro ((h | h) | h)
    · exact .inl h
    · exact .inr ⟨h.1, .inl h.2⟩
    · exact .inr ⟨h.1.1, .inr ⟨h.1.2, h.2⟩⟩
  · rintro (h | ⟨h, h2 | h2⟩)
    · exact .inl (.inl h)
    · exact .inl (.inr ⟨h, h2⟩)
    · exact .inr ⟨⟨h, h2.1⟩, h2.2⟩

theorem aheadP_trans {kf : Nat → Int × Int} {p q r : Nat} (h : aheadP kf p q) (h2 : aheadP kf q r) : aheadP kf p r := by
  rw [aheadP_iff] at *
  omega

theorem merge_ahead (kf : Nat → Int × Int) : ∀ (A B : List Nat), A.Pairwise (aheadP kf) → B.Pairwise (aheadP kf) → (∀ x ∈ A, ∀ y ∈ B, x < y) → (A.merge B (leK kf)).Pairwise (aheadP kf) := by
  intro A
  induction A with
  | nil => intro B _ hB _; simpa using hB
  | cons a A ihA =>
    intro B
    induction B with
    | nil => intro hA _ _; simpa using hA
    | cons b B ihB =>
      intro hA hB hAB
      rw [List.cons_merge_cons]
      have hA2 := List.pairwise_cons.1 hA
      have hB2 := List.pairwise_cons.1 hB
      have hab := hAB a (by simp) b (by simp)
      by_cases h : leK kf a b = true
      · rw [if_pos h]
        have hR : aheadP kf a b := by
          rw [aheadP_iff]
          unfold leK at h
          simp only [Bool.not_eq_true', decide_eq_false_iff_not, ordK_lt] at h
          omega
        refine List.pairwise_cons.2 ⟨fun x hx => ?_, ihA (b :: B) hA2.2 hB (fun x hx y hy => hAB x (by simp [hx]) y hy)⟩
        rw [List.mem_merge] at hx
        rcases hx with hx | hx
        · exact hA2.1 x hx
        · rcases List.mem_cons.1 hx with rfl | hx
          · exact hR
          · exact aheadP_trans hR (hB2.1 x hx)
      · rw [if_neg h]
        have hR : aheadP kf b a := by
          rw [aheadP_iff]
          unfold leK at h
          simp only [Bool.not_eq_true', decide_eq_false_iff_not, ordK_lt, Decidable.not_not] at h
          omega
        refine List.pairwise_cons.2 ⟨fun x hx => ?_, ihB hA hB2.2 (fun x hx y hy => hAB x hx y (by simp [hy]))⟩
        rw [List.mem_merge] at hx
        rcases hx with hx | hx
        · rcases List.mem_cons.1 hx with rfl | hx
          · exact hR
          · exact aheadP_trans hR (hA2.1 x hx)
        · exact hB2.1 x hx

theorem srtF_ahead (kf : Nat → Int × Int) : ∀ (f : Nat) (l : List Nat), l.length ≤ f → l.Pairwise (· < ·) → (srtF kf f l).Pairwise (aheadP kf)
  | 0, l, h, _ => by
    obtain rfl : l = [] := List.eq_nil_of_length_eq_zero (by omega)
    exact .nil
  | f + 1, l, h, hp => by
    simp only [srtF]
    split
    · rename_i h2
      match l, h2 with
      | [], _ => exact .nil
      | [x], _ => simp
      | x :: y :: m, h2 => simp at h2; omega
    · rename_i h2
      refine merge_ahead kf _ _ (srtF_ahead kf f _ (by rw [List.length_take]; omega) (hp.sublist (List.take_sublist _ _))) (srtF_ahead kf f _ (by rw [List.length_drop]; omega) (hp.sublist (List.drop_sublist _ _))) ?_
      intro x hx y hy
      have hx := (srtF_perm kf f _).mem_iff.1 hx
      have hy := (srtF_perm kf f _).mem_iff.1 hy
      have := List.take_append_drop (l.length / 2) l
      rw [← this] at hp
      exact (List.pairwise_append.1 hp).2.2 x hx y hy

theorem ordL_may (l : List (Int × Int)) : ∀ i (h : i + 1 < (ordL l).length), mayK l (ordL l)[i] (ordL l)[i + 1] := by
  have h := srtF_ahead (fun i => l.getD i (0, 0)) l.length (List.range l.length) (by simp) List.pairwise_lt_range
  intro i hi
  exact List.pairwise_iff_getElem.1 h i (i + 1) (by exact Nat.lt_of_succ_lt hi) hi (by omega)

theorem ordL_nodup (l : List (Int × Int)) : (ordL l).Nodup := (ordL_perm l).nodup_iff.2 List.nodup_range
theorem ordL_lt (l : List (Int × Int)) : ∀ x ∈ ordL l, x < l.length := fun x hx => by simpa using (ordL_perm l).mem_iff.1 hx

theorem cell_set_ne {w : World} {a b : Addr} {v : Value} (h : a ≠ b) : (w.setCell a v).cell? b = w.cell? b := by
  apply World.cell?_setCell_other
  exact h

set_option maxRecDepth 100000 in
set_option maxHeartbeats 4000000 in
theorem kRises (a a' : Option Addr) (l : List (Int × Int)) (P : List Nat) (n c c' : Nat) (w : World) (hn : l.length = n) (h : RdK eKey 2 w a l) (hP : P.length = n) (h' : Rd eNat w a' P) (hsz : n ≤ 200000)
    (hlt : ∀ x ∈ P, x < n) (hnd : P.Nodup) (hmay : ∀ i (h : i + 1 < P.length), mayK l P[i] P[i + 1]) :
    Calls Try.prog 38 #[.slice a n c, .slice a' n c'] w fun e w' => e = .returned (.bool true) ∧ Below w.heap.size w w' := by
  have HN := Lib.hid hn
  have HP := Lib.hid hP
  have H := Lib.hid h
  have H' := Lib.hid h'
  have HL := Lib.hid hlt
  have HD := Lib.hid hnd
  have HM := Lib.hid hmay
  clear hn hP h h' hlt hnd hmay
  have hmk := run_make_row' (P := Try.prog) 73 4 (.bool false) 1 Try.underlying73 (by kernel_rfl) rfl .i64 .i64 n (by omega) (by omega)
  go_enter Try.func38, Try.ntmps38
  go_wp2
  clear hmk
  go_loopw [6, 7, 8, 9, 20] (fun t6 t7 t8 t9 i wr => ∃ k : Nat, i = .int .i64 k ∧ k ≤ n ∧ Below w.heap.size w wr ∧ w.heap.size < wr.heap.size ∧ wr.frozen? ⟨w.heap.size, 0, none⟩ = false ∧
      Hid (∀ j, j < n → wr.cell? ⟨w.heap.size, j, none⟩ = some (.bool (decide (j ∈ P.take k)))) ∧ Hid (∀ j, wr.frozen? ⟨w.heap.size, j, none⟩ = false)) (fun _ _ _ _ i _ => n - (intOf i).toNat)
  case atStart =>
    refine ⟨0, rfl, Nat.zero_le _, (Below.refl _ _).alloc (Nat.le_refl _) _, by simp, by simp, fun j hj => ?_, fun j => by simp⟩
    rw [World.cell?_alloc_at _ _ _ _ rfl]
    simp [madeCells, hj, Nat.mod_one]
  case round =>
    obtain ⟨k, rfl, hk, hb, hs, hfr0, hse, hfr⟩ := hrel
    by_cases hkn : k < n
    · obtain ⟨bp, op, rfl, hbp, hcp⟩ := (H'.out).get (by rw [HP.out]; omega)
      obtain ⟨x, hx⟩ : ∃ x, x = P[k]'(by rw [HP.out]; exact hkn) := ⟨_, rfl⟩
      have hpk := (hb.cell (p := ⟨bp, op + k, none⟩) hbp).trans (hcp k (by rw [HP.out]; exact hkn))
      simp only [eNat, ← hx] at hpk
      have hxn : x < n := by rw [hx]; exact HL.out _ (List.getElem_mem _)
      have hnew : ¬ x ∈ P.take k := by
        rw [hx]
        intro hm
        have hd := HD.out
        obtain ⟨i, hi, he⟩ := List.getElem_of_mem hm
        rw [List.getElem_take] at he
        have := (List.getElem_inj (h₀ := by simp at hi; omega) (h₁ := by rw [HP.out]; exact hkn) hd).1 he
        simp at hi
        omega
      have hseen := hse.out x hxn
      rw [decide_eq_false hnew] at hseen
      have hfz := hfr.out x
      have htk : P.take (k + 1) = P.take k ++ [x] := by rw [hx]; exact List.take_succ_eq_append_getElem (by rw [HP.out]; exact hkn)
      have q1 : (0 : Int) ≤ (x : Int) := by omega
      have q2 : (x : Int) < (n : Int) := by omega
      have q3 : decide ((x : Int) < 0) = false := by simp
      have q4 : decide ((n : Int) ≤ (x : Int)) = false := by simp; omega
      have q5 : (0 : Int) ≤ (k : Int) := by omega
      have q6 : (k : Int) < (n : Int) := by omega
      have hstep : Hid (∀ w3, Below wr.heap.size (wr.setCell ⟨w.heap.size, x, none⟩ (.bool true)) w3 → (∀ j, j < n → w3.cell? ⟨w.heap.size, j, none⟩ = some (.bool (decide (j ∈ P.take (k + 1))))) ∧ (∀ j, w3.frozen? ⟨w.heap.size, j, none⟩ = false) ∧ Below w.heap.size w w3 ∧ w.heap.size < w3.heap.size) := by
        intro w3 hb3
        refine ⟨fun j hj => ?_, fun j => ?_, ?_, ?_⟩
        · rw [hb3.cell (p := ⟨w.heap.size, j, none⟩) hs, htk]
          by_cases e : j = x
          · subst e
            rw [cell_set_same hseen]
            simp
          · rw [cell_set_ne (fun h => by cases h; exact e rfl), hse.out j hj]
            simp [e]
        · rw [hb3.frozen (p := ⟨w.heap.size, j, none⟩) hs, World.frozen?_setCell]
          exact hfr.out j
        · exact (hb.setCell (Nat.le_refl _) _).trans (hb3.mono (by omega))
        · have := hb3.size
          simp only [World.size_setCell] at this
          omega
      have HX := Lib.hid hx
      clear hse hfr htk hx
      by_cases hk0 : k = 0
      · have t0 : ((k : Int) == 0) = true := by simp; omega
        clear H HM hk0 hcp
        go_wp2
        go_roundw
        case rel =>
          obtain ⟨r1, r2, r3, r4⟩ := hstep.out _ (Below.refl _ _)
          exact ⟨k + 1, by go_num, by omega, r3, r4, r2 0, r1, r2⟩
        case measure => simp [intOf]; omega
      · have t0 : ((k : Int) == 0) = false := by simp; omega
        obtain ⟨y, hy⟩ : ∃ y, y = P[k - 1]'(by rw [HP.out]; omega) := ⟨_, rfl⟩
        have hpy := (hb.cell (p := ⟨bp, op + (k - 1), none⟩) hbp).trans (hcp (k - 1) (by rw [HP.out]; omega))
        simp only [eNat, ← hy] at hpy
        have hyn : y < n := by rw [hy]; exact HL.out _ (List.getElem_mem _)
        have hmk : mayK l y x := by
          have := HM.out (k - 1) (by rw [HP.out]; omega)
          rw [← hy] at this
          simp only [show k - 1 + 1 = k by omega] at this
          rw [← HX.out] at this
          exact this
        have hxl : x < l.length := by rw [HN.out]; exact hxn
        have hyl : y < l.length := by rw [HN.out]; exact hyn
        obtain ⟨m1, m2, m3⟩ := mayK_test hmk hyl hxl
        obtain ⟨bl, ol, rfl, hbl, hcl⟩ := H.out.get (by omega)
        have X0 := (hb.cell (p := ⟨bl, ol + x * 2 + 0, none⟩) hbl).trans (hcl x hxl 0 (by omega))
        have X1 := (hb.cell (p := ⟨bl, ol + x * 2 + 1, none⟩) hbl).trans (hcl x hxl 1 (by omega))
        have Y0 := (hb.cell (p := ⟨bl, ol + y * 2 + 0, none⟩) hbl).trans (hcl y hyl 0 (by omega))
        have Y1 := (hb.cell (p := ⟨bl, ol + y * 2 + 1, none⟩) hbl).trans (hcl y hyl 1 (by omega))
        simp only [eKey, List.getElem?_cons_zero, List.getElem?_cons_succ, Nat.add_zero] at X0 X1 Y0 Y1
        have q7 : (0 : Int) ≤ (k : Int) - 1 := by omega
        have q8 : (k : Int) - 1 < (n : Int) := by omega
        have q9 : ((k : Int) - 1).toNat = k - 1 := by omega
        have q10 : (0 : Int) ≤ (y : Int) := by omega
        have q11 : (y : Int) < (n : Int) := by omega
        have q12 : w.heap.size ≠ bl := by omega
        clear hcl hcp hk0 hy HX HM H hmk
        generalize l[x] = px at *
        generalize l[y] = py at *
        obtain ⟨px1, px2⟩ := px
        obtain ⟨py1, py2⟩ := py
        simp only at *
        have M2 := Lib.hid m2
        have M3 := Lib.hid m3
        clear m2 m3 hxl hyl
        have hs2 : wr.heap.size ≤ (wr.setCell ⟨w.heap.size, x, none⟩ (.bool true)).heap.size := by simp [World.size_setCell]
        have hpy' := (cell_set_ne (a := ⟨w.heap.size, x, none⟩) (v := .bool true) (fun h => by have h1 := congrArg Addr.block h; simp at h1; omega)).trans hpy
        have X0' := (cell_set_ne (a := ⟨w.heap.size, x, none⟩) (v := .bool true) (fun h => by have h1 := congrArg Addr.block h; simp at h1; omega)).trans X0
        have X1' := (cell_set_ne (a := ⟨w.heap.size, x, none⟩) (v := .bool true) (fun h => by have h1 := congrArg Addr.block h; simp at h1; omega)).trans X1
        have Y0' := (cell_set_ne (a := ⟨w.heap.size, x, none⟩) (v := .bool true) (fun h => by have h1 := congrArg Addr.block h; simp at h1; omega)).trans Y0
        have Y1' := (cell_set_ne (a := ⟨w.heap.size, x, none⟩) (v := .bool true) (fun h => by have h1 := congrArg Addr.block h; simp at h1; omega)).trans Y1
        have HY0 := Lib.hid hpy'
        have HY1 := Lib.hid X0'
        have HY2 := Lib.hid X1'
        have HY3 := Lib.hid Y0'
        have HY4 := Lib.hid Y1'
        have HY5 := Lib.hid hs2
        clear hpy' X0' X1' Y0' Y1' hs2 hpy X0 X1 Y0 Y1
        go_wp2
        generalize wr.setCell ⟨w.heap.size, x, none⟩ (.bool true) = w2 at *
        have hpy := HY0.out
        have X0 := HY1.out
        have X1 := HY2.out
        have Y0 := HY3.out
        have Y1 := HY4.out
        have z1 : bl < w2.heap.size := by have := HY5.out; omega
        have z2 : bp < w2.heap.size := by have := HY5.out; omega
        have z3 := HY5.out
        clear HY0 HY1 HY2 HY3 HY4 HY5
        by_cases e1 : px1 = py1
        · subst e1
          have m2 := M2.out rfl
          by_cases e2 : px2 = py2
          · subst e2
            have m3 := M3.out rfl
            have m5 : y ≤ x := by simpa using m3
            have m6 : decide (x < y) = false := by simp; omega
            clear M2 M3
            go_region
            all_goals
              go_wp2
              go_roundw
              case rel =>
                obtain ⟨r1, r2, r3, r4⟩ := hstep.out _ (((Below.refl _ _).alloc (by omega) _).alloc (by simp; omega) _).drew
                exact ⟨k + 1, by go_num, by omega, r3, r4, r2 0, r1, r2⟩
              case measure => simp [intOf]; omega
          · have m4 : ((px2 : Int) == py2) = false := by simp [e2]
            clear M2 M3
            go_region
            all_goals
              go_wp2
              go_roundw
              case rel =>
                obtain ⟨r1, r2, r3, r4⟩ := hstep.out _ (((Below.refl _ _).alloc (by omega) _).alloc (by simp; omega) _).drew
                exact ⟨k + 1, by go_num, by omega, r3, r4, r2 0, r1, r2⟩
              case measure => simp [intOf]; omega
        · have m4 : ((px1 : Int) == py1) = false := by simp [e1]
          clear M2 M3
          go_region
          all_goals
            go_wp2
            go_roundw
            case rel =>
              obtain ⟨r1, r2, r3, r4⟩ := hstep.out _ (((Below.refl _ _).alloc (by omega) _).alloc (by simp; omega) _).drew
              exact ⟨k + 1, by go_num, by omega, r3, r4, r2 0, r1, r2⟩
            case measure => simp [intOf]; omega
    · have : k = n := by omega
      subst this
      go_wp2
      go_ret
      exact ⟨rfl, hb⟩

end Go.Proofs.Ytlhmipjbpbbcbaa
