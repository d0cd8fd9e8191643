/- The walk of the law RankSplits. -/
import Derived.Test.YtlhmipjbpbbcbaaRankQ
namespace Go.Proofs.Ytlhmipjbpbbcbaa
open Go.RowKit

/-- how often the k-th one comes -/
def often (o : List Int) (k : Nat) : Nat := if k < o.length then (o.getD k 0 % 4).toNat else 1

/-- the first k ones, each as often as is told -/
def allUpto (s o : List Int) : Nat → List Int
  | 0 => []
  | k + 1 => allUpto s o k ++ List.replicate (often o k) (s.getD k 0)

theorem often_le (o : List Int) (k : Nat) : often o k ≤ 3 := by
  unfold often
  split <;> omega

theorem allUpto_len (s o : List Int) : ∀ k, (allUpto s o k).length ≤ 3 * k
  | 0 => by simp [allUpto]
  | k + 1 => by
    have := allUpto_len s o k
    have := often_le o k
    simp only [allUpto, List.length_append, List.length_replicate]
    omega

theorem allUpto_rises (s o : List Int) (hs : s.Pairwise (· < ·)) : ∀ k, k ≤ s.length → (allUpto s o k).Pairwise (· ≤ ·) ∧ ∀ x ∈ allUpto s o k, ∀ (h : k < s.length), x ≤ s[k]
  | 0, _ => by simp [allUpto]
  | k + 1, hk => by
    obtain ⟨h1, h2⟩ := allUpto_rises s o hs k (by omega)
    have hg : s.getD k 0 = s[k] := by simp [show k < s.length by omega]
    simp only [allUpto, hg]
    refine ⟨?_, ?_⟩
    · rw [List.pairwise_append]
      refine ⟨h1, ?_, ?_⟩
      · exact List.pairwise_replicate.2 (.inr (Int.le_refl _))
      · intro a ha b hb
        have := (List.mem_replicate.1 hb).2
        subst this
        exact h2 a ha (by omega)
    · intro x hx h
      have h3 := List.pairwise_iff_getElem.1 hs k (k + 1) (by omega) h (by omega)
      rcases List.mem_append.1 hx with hx | hx
      · have := h2 x hx (by omega); omega
      · have := (List.mem_replicate.1 hx).2; omega

theorem places_of (l : List Int) (x : Int) (hl : l.Pairwise (· ≤ ·)) :
    (rkFirst l x).1 ≤ l.length ∧ (rkAbove l x).1 ≤ l.length ∧ (rkFirst l x).1 ≤ (rkAbove l x).1 ∧ (∀ i (h : i < l.length), (i < (rkFirst l x).1 ↔ l[i] < x) ∧ (i < (rkAbove l x).1 ↔ l[i] ≤ x)) := by
  have hm : ∀ i j (hi : i < l.length) (hj : j < l.length), i ≤ j → l[i] ≤ l[j] := by
    intro i j hi hj hij
    by_cases e : i = j
    · subst e; exact Int.le_refl _
    · exact List.pairwise_iff_getElem.1 hl i j hi hj (by omega)
  have h1 := bsrch_place (fun i => decide (x ≤ l.getD i 0)) l.length (fun i j hij hj h => by
    simp [show i < l.length by omega, hj] at h ⊢; have := hm i j (by omega) hj hij; omega) l.length 0 l.length 0 (by omega) (Nat.zero_le _) (Nat.le_refl _) (fun t ht => absurd ht (Nat.not_lt_zero _)) (fun t h4 h5 => by omega)
  have h2 := bsrch_place (fun i => decide (x < l.getD i 0)) l.length (fun i j hij hj h => by
    simp [show i < l.length by omega, hj] at h ⊢; have := hm i j (by omega) hj hij; omega) l.length 0 l.length 0 (by omega) (Nat.zero_le _) (Nat.le_refl _) (fun t ht => absurd ht (Nat.not_lt_zero _)) (fun t h4 h5 => by omega)
  change (rkFirst l x).1 ≤ _ ∧ (∀ t, t < (rkFirst l x).1 → _) ∧ (∀ t, (rkFirst l x).1 ≤ t → _) at h1
  change (rkAbove l x).1 ≤ _ ∧ (∀ t, t < (rkAbove l x).1 → _) ∧ (∀ t, (rkAbove l x).1 ≤ t → _) at h2
  generalize (rkFirst l x).1 = f at *
  generalize (rkAbove l x).1 = g at *
  obtain ⟨a1, a2, a3⟩ := h1
  obtain ⟨b1, b2, b3⟩ := h2
  have key : ∀ i (h : i < l.length), (i < f ↔ l[i] < x) ∧ (i < g ↔ l[i] ≤ x) := by
    intro i h
    refine ⟨⟨fun h4 => ?_, fun h4 => ?_⟩, ⟨fun h4 => ?_, fun h4 => ?_⟩⟩
    · have := a2 i h4; simp [h] at this; omega
    · apply Classical.byContradiction; intro h5
      have := a3 i (by omega) h; simp [h] at this; omega
    · have := b2 i h4; simp [h] at this; omega
    · apply Classical.byContradiction; intro h5
      have := b3 i (by omega) h; simp [h] at this; omega
  refine ⟨a1, b1, ?_, key⟩
  apply Classical.byContradiction
  intro h5
  have h6 := (key g (by omega)).1.1 (by omega)
  have h7 := (key g (by omega)).2
  omega

set_option maxRecDepth 100000 in
set_option maxHeartbeats 2000000 in
theorem wRankSplits (a : Option Addr) (l : List Int) (c : Nat) (a' : Option Addr) (o : List Int) (c' : Nat) (x : Int) (w : World) (h : Rd (.int .i64) w a l) (h' : Rd (.int .u8) w a' o) (hm : l.length ≤ 9223372036854775807) (hm' : o.length ≤ 9223372036854775807) (ho : ∀ v ∈ o, 0 ≤ v ∧ v ≤ 255) :
    Calls Try.prog 4 #[.slice a l.length c, .slice a' o.length c', .int .i64 x] w fun e w' => e = .returned (.bool true) ∧ Below w.heap.size w w' := by
  have AW := Lib.hid awake04
  by_cases h2000 : 2000 < l.length
  · clear h h' ho
    go_enter Try.func4, Try.ntmps4
    go_wp2_with fail
    refine (AW.out w).mono ?_
    rintro e w1 ⟨rfl, hb⟩
    go_wp2_with fail
    go_ret
    exact ⟨rfl, hb⟩
  · have C1 := Lib.hid (rSqueeze a l c w h (by omega))
    have H' := Lib.hid h'
    have HO := Lib.hid ho
    have F1 := Lib.hid (sqz_facts l).1
    have hS := (sqz_facts l).2.2
    clear h h' ho
    generalize sqz l = s at *
    have hS2 : s.length ≤ 2000 := by omega
    clear hS
    go_enter Try.func4, Try.ntmps4
    go_wp2_with fail
    refine C1.out.mono ?_
    rintro e w1 ⟨v1, rfl, hown, hb1⟩
    obtain ⟨a1, c1, rfl, _, _, hr⟩ := Rd.of_owns hown
    have R1 := Lib.hid hr
    clear hr hown C1
    go_wp2
    go_loopw [7, 24] (fun v i wr => ∃ k : Nat, i = .int .i64 k ∧ k ≤ s.length ∧ wr.ownsRow w1.heap.size 2 1 v (allUpto s o k).length ((allUpto s o k).map (.int .i64)) ∧ Below w1.heap.size w1 wr) (fun _ i _ => s.length - (intOf i).toNat)
    case atStart => exact ⟨0, rfl, Nat.zero_le _, World.ownsRow_nil _ _ _ _, Below.refl _ _⟩
    case round =>
      obtain ⟨k, rfl, hk, hown, hb2⟩ := hrel
      have B2 := hb1.trans (hb2.mono hb1.size)
      have HOW := Lib.hid hown
      clear hown
      by_cases hlt : k < s.length
      · obtain ⟨b, off, ea, hbl, hc⟩ := (R1.out.below hb2).get (by omega)
        have hx := hc k hlt
        have hg : s.getD k 0 = s[k] := by simp [hlt]
        have EA := Lib.hid ea
        have ET : Hid (allUpto s o (k + 1) = allUpto s o k ++ List.replicate (often o k) s[k]) := by show allUpto s o k ++ _ = _; rw [hg]
        have hL := allUpto_len s o k
        have hO := often_le o k
        clear ea hc hg
        generalize s[k] = y at *
        obtain ⟨wo, ewo⟩ : ∃ wo : World, wo = wr := ⟨_, rfl⟩
        subst ewo
        have hs2 := hb2.size
        by_cases hko : k < o.length
        · obtain ⟨b', off', rfl, hbl', hc'⟩ := (H'.out.below B2).get (by omega)
          have hx' := hc' k hko
          have hv := HO.out _ (List.getElem_mem hko)
          have EO : often o k = (o[k] % 4).toNat := by simp [often, hko]
          rw [EO] at ET hO
          clear EO hc'
          generalize o[k] = v at *
          obtain ⟨hv0, hv1⟩ := hv
          obtain rfl := EA.out
          go_wp2
          go_loopw [7, 40] (fun vv i wr => ∃ j : Nat, i = .int .i64 j ∧ (j : Int) ≤ v % 4 ∧ wr.ownsRow w1.heap.size 2 1 vv ((allUpto s o k).length + j) ((allUpto s o k ++ List.replicate j y).map (.int .i64)) ∧ Below w1.heap.size w1 wr) (fun _ i _ => (v % 4 - intOf i).toNat)
          case atStart => exact ⟨0, rfl, by omega, by simpa using HOW.out, hb2⟩
          case round =>
            obtain ⟨j, rfl, hj, hown, hb3⟩ := hrel
            have hs3 := hb3.size
            by_cases hjl : (j : Int) < v % 4
            · go_wp2_with (at_builtin; refine wp_append1 elInt64 w1.heap.size hown [.int .i64 y] rfl (by simp [Value.oneCell']) rfl _ _ rfl rfl _ rfl (by unfold maxLen; omega) (by omega) (by omega) ?_; intro v' w' hown' hg)
              go_roundw
              case rel => exact ⟨j + 1, by go_num, by omega, by rw [List.replicate_succ', ← List.append_assoc, List.map_append]; exact hown', below_grown hb3 hown hg hs3 (Nat.le_refl _)⟩
              case measure => simp [intOf]; omega
            · have e5 : allUpto s o k ++ List.replicate j y = allUpto s o (k + 1) := by rw [ET.out, show (v % 4).toNat = j by omega]
              have e6 : (allUpto s o k).length + j = (allUpto s o (k + 1)).length := by rw [← e5]; simp
              rw [e5, e6] at hown
              have hown4 := Lib.hid hown
              clear e5 e6
              clear hown HOW ET
              go_wp2
              go_roundw
              case rel => exact ⟨k + 1, by go_num, by omega, hown4, hb3⟩
              case measure => simp [intOf]; omega
        · have EO : often o k = 1 := by simp [often, hko]
          rw [EO] at ET
          clear EO hO
          obtain rfl := EA.out
          go_wp2
          go_loopw [7, 40] (fun vv i wr => ∃ j : Nat, i = .int .i64 j ∧ j ≤ 1 ∧ wr.ownsRow w1.heap.size 2 1 vv ((allUpto s o k).length + j) ((allUpto s o k ++ List.replicate j y).map (.int .i64)) ∧ Below w1.heap.size w1 wr) (fun _ i _ => (1 - intOf i).toNat)
          case atStart => exact ⟨0, rfl, by omega, by simpa using HOW.out, hb2⟩
          case round =>
            obtain ⟨j, rfl, hj, hown, hb3⟩ := hrel
            have hs3 := hb3.size
            by_cases hjl : j < 1
            · go_wp2_with (at_builtin; refine wp_append1 elInt64 w1.heap.size hown [.int .i64 y] rfl (by simp [Value.oneCell']) rfl _ _ rfl rfl _ rfl (by unfold maxLen; omega) (by omega) (by omega) ?_; intro v' w' hown' hg)
              go_roundw
              case rel => exact ⟨j + 1, by go_num, by omega, by rw [List.replicate_succ', ← List.append_assoc, List.map_append]; exact hown', below_grown hb3 hown hg hs3 (Nat.le_refl _)⟩
              case measure => simp [intOf]; omega
            · have e5 : allUpto s o k ++ List.replicate j y = allUpto s o (k + 1) := by rw [ET.out, show 1 = j by omega]
              have e6 : (allUpto s o k).length + j = (allUpto s o (k + 1)).length := by rw [← e5]; simp
              rw [e5, e6] at hown
              have hown4 := Lib.hid hown
              clear e5 e6
              clear hown HOW ET
              go_wp2
              go_roundw
              case rel => exact ⟨k + 1, by go_num, by omega, hown4, hb3⟩
              case measure => simp [intOf]; omega
      · obtain rfl : k = s.length := by omega
        have hL := allUpto_len s o s.length
        have hR := (allUpto_rises s o F1.out s.length (Nat.le_refl _)).1
        obtain ⟨q1, q2, q3, q4⟩ := places_of _ x hR
        have Q := Lib.hid q4
        obtain ⟨aa, ca, rfl, _, _, hra⟩ := Rd.of_owns HOW.out
        have RA := Lib.hid hra
        have CF := Lib.hid (fun W h => rFirst aa (allUpto s o s.length) ca x W h (by omega))
        have CA := Lib.hid (fun W h => rAbove aa (allUpto s o s.length) ca x W h (by omega))
        clear hra HOW hR q4 R1 H' HO F1
        generalize allUpto s o s.length = al at *
        generalize rkFirst al x = p at *
        generalize rkAbove al x = q at *
        obtain ⟨f1, f2⟩ := p
        obtain ⟨g1, g2⟩ := q
        simp only at q1 q2 q3 Q CF CA
        go_wp2_with fail
        refine (CF.out wr RA.out).mono ?_
        rintro e w5 ⟨rfl, hb5⟩
        have R5 := Lib.hid (RA.out.below hb5)
        have B5 := B2.trans (hb5.mono B2.size)
        go_wp2_with fail
        refine (CA.out w5 R5.out).mono ?_
        rintro e w6 ⟨rfl, hb6⟩
        have R6 := Lib.hid (R5.out.below hb6)
        have B6 := B5.trans (hb6.mono B5.size)
        clear CF CA RA R5 hb5 hb6 B5 B2 hb2
        go_wp2
        go_loopw [75] (fun i wr => ∃ k : Nat, i = .int .i64 k ∧ k ≤ al.length ∧ Below w6.heap.size w6 wr) (fun i _ => al.length - (intOf i).toNat)
        case atStart => exact ⟨0, rfl, Nat.zero_le _, Below.refl _ _⟩
        case round =>
          obtain ⟨k, rfl, hk, hb7⟩ := hrel
          by_cases hlt : k < al.length
          · obtain ⟨b, off, ea, hbl, hc⟩ := (R6.out.below hb7).get (by omega)
            have hx := hc k hlt
            have hq := Q.out k hlt
            have EA := Lib.hid ea
            clear ea hc Q
            generalize al[k] = y at *
            obtain ⟨qa, qb⟩ := hq
            rcases Int.lt_trichotomy y x with hyx | hyx | hyx
            · have h1 : k < f1 := qa.2 hyx
              have h2 : k < g1 := by omega
              have h3 : y ≤ x := by omega
              have d1 : decide ((k : Int) < (f1 : Int)) = true := by simp [h1]
              have d2 : decide ((k : Int) < (g1 : Int)) = true := by simp [h2]
              clear qa qb
              obtain rfl := EA.out
              go_wp2
              first
              | (go_roundw
                 case rel => exact ⟨k + 1, by go_num, by omega, hb7⟩
                 case measure => simp [intOf]; omega)
              | exact ⟨⟨_, _, _, _, ⟨k + 1, by go_num, by omega⟩, rfl, rfl, rfl, rfl⟩, by simp [intOf]; omega⟩
            · have h1 : f1 ≤ k := by omega
              have h2 : k < g1 := qb.2 (by omega)
              have h4 : x ≤ y := by omega
              have h3 : y ≤ x := by omega
              have d1 : decide ((k : Int) < (f1 : Int)) = false := by simp; omega
              have d2 : decide ((k : Int) < (g1 : Int)) = true := by simp [h2]
              have d3 : decide (y < x) = false := by simp; omega
              clear qa qb hyx
              obtain rfl := EA.out
              go_wp2
              first
              | (go_roundw
                 case rel => exact ⟨k + 1, by go_num, by omega, hb7⟩
                 case measure => simp [intOf]; omega)
              | exact ⟨⟨_, _, _, _, ⟨k + 1, by go_num, by omega⟩, rfl, rfl, rfl, rfl⟩, by simp [intOf]; omega⟩
            · have h1 : f1 ≤ k := by omega
              have h2 : g1 ≤ k := by omega
              have d1 : decide ((k : Int) < (f1 : Int)) = false := by simp; omega
              have d2 : decide ((k : Int) < (g1 : Int)) = false := by simp; omega
              have d3 : decide (y < x) = false := by simp; omega
              have d4 : decide (y ≤ x) = false := by simp; omega
              clear qa qb
              obtain rfl := EA.out
              go_wp2
              first
              | (go_roundw
                 case rel => exact ⟨k + 1, by go_num, by omega, hb7⟩
                 case measure => simp [intOf]; omega)
              | exact ⟨⟨_, _, _, _, ⟨k + 1, by go_num, by omega⟩, rfl, rfl, rfl, rfl⟩, by simp [intOf]; omega⟩
          · go_wp2_with fail
            refine (AW.out wr).mono ?_
            rintro e w8 ⟨rfl, hb8⟩
            go_wp2_with fail
            go_ret
            have B7 := B6.trans (hb7.mono B6.size)
            exact ⟨rfl, B7.trans (hb8.mono B7.size)⟩

end Go.Proofs.Ytlhmipjbpbbcbaa
