/- gridironref03: Places, Written, Rises, Order: what they answer. -/
import Derived.Test.YtlhmipjbpbbcbaaKeyR
import Derived.Test.YtlhmipjbpbbcbaaKeyL1
import Derived.Laws.OwnMore
namespace Go.Proofs.Ytlhmipjbpbbcbaa
open Go.RowKit

theorem aheadP_asymm {kf : Nat → Int × Int} {p q : Nat} (h : aheadP kf p q) (h2 : aheadP kf q p) : p = q := by
  rw [aheadP_iff] at *
  omega

/-- sorted lists of the same places are the same -/
theorem ahead_unique {kf : Nat → Int × Int} {A B : List Nat} (hA : A.Pairwise (aheadP kf)) (hB : B.Pairwise (aheadP kf)) (h : A.Perm B) : A = B :=
  List.Perm.eq_of_pairwise (fun _ _ _ _ h1 h2 => aheadP_asymm h1 h2) hA hB h

/-- S with x put in at k -/
def insAt (S : List Nat) (k x : Nat) : List Nat := S.take k ++ x :: S.drop k

theorem insAt_len (S : List Nat) (k x : Nat) (h : k ≤ S.length) : (insAt S k x).length = S.length + 1 := by simp [insAt]; omega

theorem insAt_top (S : List Nat) (x : Nat) : insAt S S.length x = S ++ [x] := by simp [insAt]

theorem insAt_perm (S : List Nat) (k x : Nat) : (insAt S k x).Perm (S ++ [x]) := by
  unfold insAt
  refine List.perm_middle.trans ?_
  rw [List.take_append_drop]
  exact (List.perm_append_singleton x S).symm

theorem insAt_get (S : List Nat) (k x : Nat) (h : k ≤ S.length) : (insAt S k x)[k]'(by rw [insAt_len S k x h]; omega) = x := by
  unfold insAt
  rw [List.getElem_append_right (by simp; omega)]
  simp [Nat.min_eq_left h]

theorem insAt_prev (S : List Nat) (k x : Nat) (h0 : 0 < k) (h : k ≤ S.length) : (insAt S k x)[k - 1]'(by rw [insAt_len S k x h]; omega) = S[k - 1] := by
  unfold insAt
  rw [List.getElem_append_left (by simp; omega)]
  simp

theorem insAt_swap (S : List Nat) (k x : Nat) (h0 : 0 < k) (h : k ≤ S.length) : ((insAt S k x).set k S[k - 1]).set (k - 1) x = insAt S (k - 1) x := by
  obtain ⟨m, rfl⟩ : ∃ m, k = m + 1 := ⟨k - 1, by omega⟩
  simp only [Nat.add_sub_cancel]
  unfold insAt
  have e1 : S.take (m + 1) = S.take m ++ [S[m]] := List.take_succ_eq_append_getElem (by omega)
  have e2 : S.drop m = S[m] :: S.drop (m + 1) := List.drop_eq_getElem_cons (by omega)
  rw [e1, e2]
  have l1 : (S.take m).length = m := by simp; omega
  rw [List.append_assoc, List.set_append_right _ _ (by omega), List.set_append_right _ _ (by omega), l1]
  simp

theorem insAt_sorted {kf : Nat → Int × Int} {S : List Nat} {k x : Nat} (hS : S.Pairwise (aheadP kf)) (h1 : ∀ y ∈ S.drop k, aheadP kf x y) (h2 : ∀ y ∈ S.take k, aheadP kf y x) : (insAt S k x).Pairwise (aheadP kf) := by
  unfold insAt
  rw [List.pairwise_append]
  refine ⟨hS.sublist (List.take_sublist _ _), ?_, ?_⟩
  · rw [List.pairwise_cons]
    exact ⟨h1, hS.sublist (List.drop_sublist _ _)⟩
  · intro y hy z hz
    rcases List.mem_cons.1 hz with rfl | hz
    · exact h2 y hy
    · rw [← List.take_append_drop k S, List.pairwise_append] at hS
      exact hS.2.2 y hy z hz

theorem ownRow_of {w : World} {base : Nat} {e : TypeId} {v : Value} {n : Nat} {xs : List Value} (h : w.ownsRow base e 1 v n xs) (h0 : 0 < n) : ∃ g c, v = .slice (some ⟨g, 0, none⟩) n c ∧ base ≤ g ∧ g < w.heap.size ∧ n ≤ c ∧ c ≤ maxLen := by
  rcases h.2 with ⟨_, h1⟩ | ⟨g, cap, cur, rfl, h2, h3, h4, h5, _⟩
  · omega
  · exact ⟨g, cap, rfl, h2, (Array.getElem?_eq_some_iff.1 h3).1, h4, h5⟩

def aheadLt (l : List (Int × Int)) (i : Nat) (y : Nat) : Prop := ordK (l.getD i (0, 0)) (l.getD y (0, 0)) < 0

theorem range_snoc_perm {S : List Nat} {i : Nat} (h : S.Perm (List.range i)) : (S ++ [i]).Perm (List.range (i + 1)) := by
  rw [List.range_succ]
  exact h.append_right _

/-- the end of one insertion -/
theorem ins_done {l : List (Int × Int)} {S : List Nat} {i k : Nat} (hS : S.Pairwise (aheadP fun j => l.getD j (0, 0))) (hp : S.Perm (List.range i)) (hk : k ≤ S.length) (hd : ∀ y ∈ S.drop k, aheadLt l i y)
    (hs : k = 0 ∨ ∃ h : k - 1 < S.length, ¬ aheadLt l i S[k - 1]) : (insAt S k i).Pairwise (aheadP fun j => l.getD j (0, 0)) ∧ (insAt S k i).Perm (List.range (i + 1)) := by
  refine ⟨insAt_sorted hS (fun y hy => .inl (hd y hy)) ?_, (insAt_perm S k i).trans (range_snoc_perm hp)⟩
  intro y hy
  rcases hs with rfl | ⟨h, hn⟩
  · simp at hy
  · have hlt : ∀ z ∈ S, z < i := fun z hz => by have := hp.mem_iff.1 hz; simpa using this
    have hx : aheadP (fun j => l.getD j (0, 0)) S[k - 1] i := by
      have h3 := hlt _ (List.getElem_mem h)
      have h4 : ¬ ordK (l.getD i (0, 0)) (l.getD S[k - 1] (0, 0)) < 0 := hn
      rw [ordK_lt] at h4
      rw [aheadP_iff]
      omega
    obtain ⟨t, ht, rfl⟩ := List.getElem_of_mem hy
    have ht2 : t < k := by simp at ht; omega
    rw [List.getElem_take]
    by_cases e : t = k - 1
    · subst e; exact hx
    · exact aheadP_trans (List.pairwise_iff_getElem.1 hS t (k - 1) (by omega) h (by omega)) hx

set_option maxRecDepth 100000 in
set_option maxHeartbeats 4000000 in
theorem refPlaces (a : Option Addr) (l : List (Int × Int)) (n c : Nat) (w : World) (hn : l.length = n) (h : RdK eKey 2 w a l) (hl : n ≤ 1000000) :
    Calls Try.prog 51 #[.slice a n c] w fun e w' => ∃ v, e = .returned v ∧ w'.ownsRow w.heap.size 3 1 v n ((ordL l).map eNat) ∧ Below w.heap.size w w' := by
  have H := Lib.hid h
  have HN := Lib.hid hn
  have OU : Hid (∀ S : List Nat, S.Pairwise (aheadP fun j => l.getD j (0, 0)) → S.Perm (List.range n) → S = ordL l) := fun S h1 h2 =>
    ahead_unique h1 (srtF_ahead _ _ _ (by simp) (by simpa using List.pairwise_lt_range)) (h2.trans (by rw [← hn]; exact (ordL_perm l).symm))
  clear h hn
  go_enter Try.func51, Try.ntmps51
  go_wp2
  go_loopw [3, 4] (fun v iv wr => ∃ (i : Nat) (S : List Nat), iv = .int .i64 i ∧ i ≤ n ∧ Hid (wr.ownsRow w.heap.size 3 1 v i (S.map eNat)) ∧ Hid (S.length = i) ∧ Hid (S.Pairwise (aheadP fun j => l.getD j (0, 0))) ∧ Hid (S.Perm (List.range i)) ∧ Below w.heap.size w wr) (fun _ iv _ => n - (intOf iv).toNat)
  case atStart => exact ⟨0, [], rfl, Nat.zero_le _, World.ownsRow_nil _ _ _ _, rfl, List.Pairwise.nil, by simp [Hid], Below.refl _ _⟩
  case round =>
    obtain ⟨i, S, rfl, hi, HO, HS, HP, HM, hb⟩ := hrel
    by_cases hlt : i < n
    · have hs0 := hb.size
      have hO := HO.out
      obtain ⟨av, cv, ev, -, -, -⟩ := Rd.of_owns hO
      rw [HS.out] at ev
      subst ev
      clear HO
      have hN := HN.out
      have hbd : Hid (∀ W, Below w.heap.size w W → RdK eKey 2 W a l) := fun W hW => H.out.below hW
      clear hN
      go_wp2_with (at_builtin; refine wp_append1 elInt w.heap.size hO [.int .i64 i] rfl (by simp [Value.oneCell']) rfl _ _ rfl rfl _ rfl (by unfold maxLen; omega) (by omega) (by omega) ?_; intro v' w6 hown' hg)
      have b6 := below_grown hb hO hg hs0 (Nat.le_refl _)
      obtain ⟨g, cv', rfl, hg1, hg2, hg3, hg4⟩ := ownRow_of hown' (by omega)
      have HO6 : Hid (w6.ownsRow w.heap.size 3 1 (.slice (some ⟨g, 0, none⟩) (i + 1) cv') (i + 1) ((insAt S i i).map eNat)) := by
        have e1 := insAt_top S i
        rw [HS.out] at e1
        show w6.ownsRow _ _ _ _ _ _
        rw [e1, List.map_append]
        exact hown'
      clear hown' hg hO hb
      unfold maxLen at hg4
      go_wp2
      go_loopw [5] (fun kv wr => ∃ k : Nat, kv = .int .i64 k ∧ k ≤ i ∧ Hid (wr.ownsRow w.heap.size 3 1 (.slice (some ⟨g, 0, none⟩) (i + 1) cv') (i + 1) ((insAt S k i).map eNat)) ∧ Hid (∀ y ∈ S.drop k, aheadLt l i y) ∧ Below w.heap.size w wr) (fun kv _ => (intOf kv).toNat)
      case atStart => exact ⟨i, rfl, Nat.le_refl _, HO6, by intro y hy; rw [List.drop_of_length_le (by rw [HS.out]; exact Nat.le_refl _)] at hy; simp at hy, b6⟩
      case round =>
        clear b6 HO6
        obtain ⟨k, rfl, hk, HO, HD, hb⟩ := hrel
        have hkS : k ≤ S.length := by rw [HS.out]; exact hk
        rcases Nat.eq_zero_or_pos k with rfl | hk0
        · have hd : decide ((0 : Int) < 0) = false := by decide
          obtain ⟨d1, d2⟩ := ins_done HP.out HM.out hkS HD.out (.inl rfl)
          have D1 := Lib.hid d1
          have D2 := Lib.hid d2
          have D3 : Hid ((insAt S 0 i).length = i + 1) := by show _ = _; rw [insAt_len S 0 i hkS, HS.out]
          clear d1 d2 hkS
          go_wp2
          go_quiet (fail)
          go_wp2
          go_roundw
          case rel => exact ⟨i + 1, insAt S 0 i, by go_num, by omega, HO.out.drewAny _, D3, D1, D2, hb.trans (Below.drewAny _ _)⟩
          case measure => simp [intOf]; omega
        · have hkl : k - 1 < S.length := by omega
          have hpn : S[k - 1] < n := by have := HM.out.mem_iff.1 (List.getElem_mem hkl); simp at this; omega
          have hlen1 := insAt_len S k i hkS
          have c1 := HO.out.cellAt k (by omega)
          have c2 := HO.out.cellAt (k - 1) (by omega)
          have f1 := HO.out.frozenAt k
          have f2 := HO.out.frozenAt (k - 1)
          rw [List.getElem?_map, List.getElem?_eq_getElem (by omega), insAt_get S k i hkS] at c1
          rw [List.getElem?_map, List.getElem?_eq_getElem (by omega), insAt_prev S k i hk0 hkS] at c2
          have hsw := insAt_swap S k i hk0 hkS
          have HSW : Hid ((((insAt S k i).map eNat).set k (eNat S[k - 1])).set (k - 1) (eNat i) = (insAt S (k - 1) i).map eNat) := by
            show _ = _
            rw [← hsw, List.map_set, List.map_set]
          obtain ⟨b, off, ea, hbl, hc⟩ := (hbd.out wr hb).get (by rw [HN.out]; omega)
          have hdrop : S.drop (k - 1) = S[k - 1] :: S.drop k := by
            have := List.drop_eq_getElem_cons hkl
            rw [show k - 1 + 1 = k by omega] at this
            exact this
          have HD2 : Hid (ordK (l.getD i (0, 0)) (l.getD S[k - 1] (0, 0)) < 0 → ∀ y ∈ S.drop (k - 1), aheadLt l i y) := by
            intro hx y hy
            rw [hdrop] at hy
            rcases List.mem_cons.1 hy with rfl | hy
            · exact hx
            · exact HD.out y hy
          have HD3 : Hid (¬ ordK (l.getD i (0, 0)) (l.getD S[k - 1] (0, 0)) < 0 → (insAt S k i).Pairwise (aheadP fun j => l.getD j (0, 0)) ∧ (insAt S k i).Perm (List.range (i + 1))) := fun hx =>
            ins_done HP.out HM.out hkS HD.out (.inr ⟨hkl, hx⟩)
          have hil : i < l.length := by rw [HN.out]; exact hlt
          have hpl : S[k - 1] < l.length := by rw [HN.out]; exact hpn
          have x0 := hc i hil 0 (by omega)
          have x1 := hc i hil 1 (by omega)
          have y0 := hc S[k - 1] hpl 0 (by omega)
          have y1 := hc S[k - 1] hpl 1 (by omega)
          have gi : l.getD i (0, 0) = l[i] := by simp [hil]
          have gp : l.getD S[k - 1] (0, 0) = l[S[k - 1]] := by simp [hpl]
          rw [gi, gp] at HD2 HD3
          have CA := Lib.hid (fun W => kAhead l[i] l[S[k - 1]] W)
          simp only [eKey, List.getElem?_cons_zero, List.getElem?_cons_succ, Nat.add_zero, Option.map_some, eNat] at x0 x1 y0 y1 c1 c2
          clear hc hsw gi gp hdrop
          generalize l[S[k - 1]] = kp at *
          generalize l[i] = ki at *
          generalize S[k - 1] = p at *
          have HL1 := Lib.hid hlen1
          clear hil hpl hkl hkS
          have hgw := (World.block_lt_of_cell? wr _ c1)
          clear hlen1
          subst ea
          have X0 := cell_belowW x0
          have X1 := cell_belowW x1
          have Y0 := cell_belowW y0
          have Y1 := cell_belowW y1
          have C1 := cell_belowW c1
          have C2 := cell_belowW c2
          have e1 : ((k : Int) - 1).toNat = k - 1 := by omega
          have g0 : (0 : Int) ≤ (k : Int) - 1 := by omega
          have g1 : (k : Int) - 1 < (i : Int) + 1 := by omega
          have g2 : (k : Int) < (i : Int) + 1 := by omega
          have g3 : (k : Int) - 1 ≤ (i : Int) := by omega
          have g4 : (k : Int) ≤ (i : Int) + 1 := by omega
          have g5 : (1 : Int) ≤ (k : Int) := by omega
          have g6 : k ≤ i + 1 := by omega
          have g7 : 1 ≤ k := by omega
          have hd0 : decide ((0 : Int) < (k : Int)) = true := by simp; omega
          by_cases ho : ordK ki kp < 0
          · have hd : decide (ordK ki kp < 0) = true := by simp [ho]
            have D2 := Lib.hid (HD2.out ho)
            clear HD2 HD3 HD x0 x1 y0 y1
            generalize ordK ki kp = q at *
            go_wp2
            have V1 : IntKind.i64.wrap ((k : Int) - 1) = (k : Int) - 1 := IntWalk.i64_in _ (by omega)
            refine wp_region_below (by kernel_rfl) (by kernel_rfl) ?_
            repeat (quiet_step ((go_at_call 65; exact calls_below (CA.out _))))
            refine wpQuiet_nil ?_
            clear V1 X0 X1 Y0 Y1 C1 C2
            intro w5 hw'
            have hb5 : Below wr.heap.size wr w5 := by obtain ⟨p, rfl⟩ := hw'; exact p.h
            clear hw'
            have z1 := (hb5.cell (p := ⟨g, k, none⟩) hgw).trans c1
            have z2 := (hb5.cell (p := ⟨g, k - 1, none⟩) hgw).trans c2
            have z3 := (hb5.frozen (p := ⟨g, k, none⟩) hgw).trans f1
            have z4 := (hb5.frozen (p := ⟨g, k - 1, none⟩) hgw).trans f2
            have HO5 := Lib.hid (ownsRow_below HO.out hb5)
            have B5 := hb.trans (hb5.mono hb.size)
            clear c1 c2 f1 f2 HO hb5 hb
            go_wp2
            go_region
            all_goals go_wp2
            all_goals go_roundw
            case rel =>
              refine ⟨k - 1, by go_num, by omega, ?_, D2, (B5.setCell hg1 _ |>.setCell hg1 _).drew⟩
              show World.ownsRow _ _ _ _ _ _ _
              rw [← HSW.out]
              exact ((HO5.out.stored k _).1.stored (k - 1) _).1.drewAny 1
            case measure => simp [intOf]; omega
          · have hd : decide (ordK ki kp < 0) = false := by simp; omega
            obtain ⟨d1, d2⟩ := HD3.out ho
            have D1 := Lib.hid d1
            have D2 := Lib.hid d2
            clear HD2 HD3 HD x0 x1 y0 y1 d1 d2
            generalize ordK ki kp = q at *
            go_wp2
            have V1 : IntKind.i64.wrap ((k : Int) - 1) = (k : Int) - 1 := IntWalk.i64_in _ (by omega)
            refine wp_region_below (by kernel_rfl) (by kernel_rfl) ?_
            repeat (quiet_step ((go_at_call 65; exact calls_below (CA.out _))))
            refine wpQuiet_nil ?_
            clear V1 X0 X1 Y0 Y1 C1 C2
            intro w5 hw'
            have hb5 : Below wr.heap.size wr w5 := by obtain ⟨p, rfl⟩ := hw'; exact p.h
            clear hw'
            have HO5 := Lib.hid (ownsRow_below HO.out hb5)
            have B5 := hb.trans (hb5.mono hb.size)
            have HL2 : Hid ((insAt S k i).length = i + 1) := by show _ = _; rw [HL1.out, HS.out]
            clear c1 c2 f1 f2 HO hb5 hb
            go_wp2
            go_roundw
            case rel => exact ⟨i + 1, insAt S k i, by go_num, by omega, HO5, HL2, D1, D2, B5⟩
            case measure => simp [intOf]; omega
    · obtain rfl : i = n := by omega
      have e1 := OU.out S HP.out HM.out
      subst e1
      go_wp2
      go_ret
      exact ⟨_, rfl, HO.out, hb⟩

end Go.Proofs.Ytlhmipjbpbbcbaa
