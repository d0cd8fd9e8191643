/- The walk of the law SortOwn. -/
import Derived.Test.YtlhmipjbpbbcbaaKeyN
import Derived.Test.YtlhmipjbpbbcbaaU32P
import Derived.Test.YtlhmipjbpbbcbaaKeyL1
import Derived.Test.YtlhmipjbpbbcbaaRankAw
namespace Go.Proofs.Ytlhmipjbpbbcbaa
open Go.RowKit

set_option maxHeartbeats 400000 in
theorem copyNames (a : Option Addr) (l : List Int) (c : Nat) (w : World) (h : Rd (.int .u32) w a l) (hl : l.length ≤ 1000000) :
    Calls Try.prog 28 #[.slice a l.length c] w fun e w' => ∃ v, e = .returned v ∧ w'.ownsRow w.heap.size 52 1 v l.length (l.map (.int .u32)) ∧ Below w.heap.size w w' := by
  have hown := World.ownsRow_made (e := 52) (size := 1) w #[] 0 (Nat.le_refl _) (Nat.zero_le _) rfl
  have h' : Rd (.int .u32) (w.alloc (.cells #[] 52)) a l := h.below ((Below.refl _ _).alloc (Nat.le_refl _) _)
  clear h
  go_enter Try.func28, Try.ntmps28
  go_wp2_with (at_builtin; refine wp_appendL elU32 (fun _ => rfl) w.heap.size hown h' rfl _ _ rfl rfl c rfl (by unfold maxLen; omega) (by omega) (by simp) ?_; intro v' w' hown' hg)
  go_ret
  rw [Nat.zero_add, List.nil_append] at hown'
  exact ⟨_, rfl, hown', below_grown ((Below.refl _ _).alloc (Nat.le_refl _) _) hown hg (by simp) (Nat.le_refl _)⟩

theorem own_aps {W : World} {base : Nat} {a : Option Addr} {n c : Nat} {xs : List Value} (h : W.ownsRow base 3 1 (.slice a n c) n xs) :
    ∃ g, (0 < c → a = some ⟨g, 0, none⟩ ∧ base ≤ g ∧ g < W.heap.size ∧ ∃ cu : Array Value, W.heap[g]? = some (.cells cu 3 (0, 0)) ∧ cu.size = c) ∧ n ≤ c ∧ c ≤ maxLen := by
  rcases h.2 with ⟨h1, _⟩ | ⟨g, cap, cur, h1, h2, h3, h4, h5, h6, _⟩
  · cases h1
    exact ⟨0, fun hc => absurd hc (Nat.lt_irrefl _), Nat.le_refl _, Nat.zero_le _⟩
  · injection h1 with e1 e2 e3
    subst e1 e3
    exact ⟨g, fun _ => ⟨rfl, h2, (Array.getElem?_eq_some_iff.1 h3).1, cur, h3, by omega⟩, h4, h5⟩

set_option maxHeartbeats 400000 in
theorem apart2 (a1 a2 : Option Addr) (n1 n2 c1 c2 g1 g2 L C B : Nat) (w : World) (x1 : w.cell? ⟨L, 0, none⟩ = some (.slice a1 n1 c1)) (x2 : w.cell? ⟨L, 1, none⟩ = some (.slice a2 n2 c2)) (hL : L < w.heap.size)
    (h1 : 0 < c1 → a1 = some ⟨g1, 0, none⟩ ∧ B ≤ g1 ∧ g1 < L ∧ ∃ cu : Array Value, w.heap[g1]? = some (.cells cu 3 (0, 0)) ∧ cu.size = c1)
    (h2 : 0 < c2 → a2 = some ⟨g2, 0, none⟩ ∧ B ≤ g2 ∧ g2 < L ∧ ∃ cu : Array Value, w.heap[g2]? = some (.cells cu 3 (0, 0)) ∧ cu.size = c2)
    (hne : 0 < c1 → 0 < c2 → g1 ≠ g2) (k1 : n1 ≤ c1 ∧ c1 ≤ 9223372036854775807) (k2 : n2 ≤ c2 ∧ c2 ≤ 9223372036854775807) (hB : B ≤ w.heap.size) :
    Calls Try.prog 39 #[.slice (some ⟨L, 0, none⟩) 2 C] w fun e w' => e = .returned (.bool true) ∧ Below B w w' ∧ ∀ b, b < w.heap.size → (0 < c1 → g1 ≠ b) → (0 < c2 → g2 ≠ b) → w'.heap[b]? = w.heap[b]? := by
  have two : ∀ {p : Nat → Prop}, p 0 → p 1 → ∀ j, j < 2 → p j := fun p0 p1 j hj => by
    match j, hj with
    | 0, _ => exact p0
    | 1, _ => exact p1
  refine (apartK 2 (fun j => if j = 0 then a1 else a2) (fun j => if j = 0 then n1 else n2) (fun j => if j = 0 then c1 else c2) (fun j => if j = 0 then g1 else g2) L C B w (by decide) (two x1 x2) hL
    (two (fun h => ⟨(h1 h).1, (h1 h).2.1⟩) (fun h => ⟨(h2 h).1, (h2 h).2.1⟩)) ?_ (two (fun h => ⟨Nat.lt_trans (h1 h).2.2.1 hL, Nat.ne_of_lt (h1 h).2.2.1⟩) (fun h => ⟨Nat.lt_trans (h2 h).2.2.1 hL, Nat.ne_of_lt (h2 h).2.2.1⟩)) (two k1 k2) hB ?_).mono fun e w' ⟨he, hb, hf⟩ => ⟨he, hb, fun b hb' f1 f2 => hf b hb' (two f1 f2)⟩
  · refine two (p := fun j => ∀ j', j < 2 → j' < 2 → 0 < (if j = 0 then c1 else c2) → 0 < (if j' = 0 then c1 else c2) → (if j = 0 then g1 else g2) = (if j' = 0 then g1 else g2) → j = j') ?_ ?_ |> fun H j j' hj => H j hj j' hj
    · intro j' _ hj'
      refine two (p := fun j' => 0 < c1 → 0 < (if j' = 0 then c1 else c2) → g1 = (if j' = 0 then g1 else g2) → 0 = j') (fun _ _ _ => rfl) (fun p q e => absurd e (hne p q)) j' hj'
    · intro j' _ hj'
      refine two (p := fun j' => 0 < c2 → 0 < (if j' = 0 then c1 else c2) → g2 = (if j' = 0 then g1 else g2) → 1 = j') (fun p q e => absurd e.symm (hne q p)) (fun _ _ _ => rfl) j' hj'
  · refine two (p := fun j => 0 < (if j = 0 then c1 else c2) → ∃ cu : Array Value, w.heap[(if j = 0 then g1 else g2)]? = some (.cells cu 3 (0, 0)) ∧ cu.size = (if j = 0 then c1 else c2) ∧ (j < 0 → _) ∧ (j = 0 → ∀ t, t < 0 → _)) ?_ ?_
    · intro h
      obtain ⟨_, _, _, cu, e1, e2⟩ := h1 h
      exact ⟨cu, e1, e2, fun hj => absurd hj (Nat.not_lt_zero _), fun _ t ht => absurd ht (Nat.not_lt_zero _)⟩
    · intro h
      obtain ⟨_, _, _, cu, e1, e2⟩ := h2 h
      exact ⟨cu, e1, e2, fun hj => absurd hj (Nat.not_lt_zero _), fun _ t ht => absurd ht (Nat.not_lt_zero _)⟩

theorem rd_heap {α : Type} {enc : α → Value} {w w' : World} {a : Option Addr} {l : List α} (h : Rd enc w a l) (he : ∀ b off, a = some ⟨b, off, none⟩ → w'.heap[b]? = w.heap[b]? ∧ b < w'.heap.size) : Rd enc w' a l := by
  rcases h with h | ⟨b, off, rfl, hlt, hc⟩
  · exact .inl h
  · obtain ⟨e1, e2⟩ := he b off rfl
    exact .inr ⟨b, off, rfl, e2, fun i hi => (World.cell?_of_block e1).trans (hc i hi)⟩

set_option maxRecDepth 100000 in
set_option maxHeartbeats 2000000 in
theorem wSortOwn (a : Option Addr) (l : List (Int × Int)) (n c : Nat) (a' : Option Addr) (l' : List Int) (c' : Nat) (w : World) (hn : l.length = n) (h : RdK eKey 2 w a l) (h' : Rd (.int .u32) w a' l') (hm : l'.length ≤ 9223372036854775807) (hm2 : n ≤ 9223372036854775807) :
    Calls Try.prog 14 #[.slice a n c, .slice a' l'.length c'] w fun e w' => e = .returned (.bool true) ∧ Below w.heap.size w w' := by
  have AW := Lib.hid awake03
  by_cases h200 : 200 < n ∨ 200 < l'.length
  · clear h h' hn
    by_cases hx : 200 < n
    · have hd : decide ((200 : Int) < (n : Int)) = true := by simp; omega
      clear h200
      go_enter Try.func14, Try.ntmps14
      go_wp2_with fail
      refine (AW.out w).mono ?_
      rintro e w1 ⟨rfl, hb⟩
      go_wp2_with fail
      go_ret
      exact ⟨rfl, hb⟩
    · have hd : decide ((200 : Int) < (n : Int)) = false := by simp; omega
      have hd2 : decide ((200 : Int) < (l'.length : Int)) = true := by simp; omega
      clear h200
      go_enter Try.func14, Try.ntmps14
      go_wp2_with fail
      refine (AW.out w).mono ?_
      rintro e w1 ⟨rfl, hb⟩
      go_wp2_with fail
      go_ret
      exact ⟨rfl, hb⟩
  · have hd : decide ((200 : Int) < (n : Int)) = false := by simp; omega
    have hd2 : decide ((200 : Int) < (l'.length : Int)) = false := by simp; omega
    have hn200 : n ≤ 200 := by omega
    have hl200 : l'.length ≤ 200 := by omega
    have CO := Lib.hid (fun W (hb : Below w.heap.size w W) => kOrdN a l n c W hn (h.below hb) (by omega))
    have H' := Lib.hid h'
    have hS := (sqz_facts l').2.2
    clear h h' hn h200
    go_enter Try.func14, Try.ntmps14
    go_wp2_with fail
    refine (CO.out w (Below.refl _ _)).mono ?_
    rintro e w1 ⟨a1, c1, rfl, hc1, hown1, hb1⟩
    have HO1 := Lib.hid (own_aps hown1)
    clear hown1
    go_wp2_with fail
    refine (CO.out w1 hb1).mono ?_
    rintro e w2 ⟨a2, c2, rfl, hc2, hown2, hb2⟩
    have HO2 := Lib.hid (own_aps hown2)
    clear hown2 CO
    have B2 := bl hb1 hb2
    go_wp2_with fail
    refine (copyNames a' l' c' w2 (H'.out.below B2) (by omega)).mono ?_
    rintro e w3 ⟨v3, rfl, hown3, hb3⟩
    obtain ⟨a3, c3, rfl, -, -, hr⟩ := Rd.of_owns hown3
    have R3 := Lib.hid hr
    have HB3 : Hid (∀ b off, a3 = some ⟨b, off, none⟩ → w2.heap.size ≤ b ∧ b < w3.heap.size) := by
      intro b off e
      subst e
      rcases hown3.2 with ⟨h1, _⟩ | ⟨g, cap, cur, h1, h2, h3, _⟩
      · cases h1
      · injection h1 with e1 _ _
        injection e1 with e1
        injection e1 with e1 _ _
        subst e1
        exact ⟨h2, (Array.getElem?_eq_some_iff.1 h3).1⟩
    clear hr hown3
    have B3 := bl B2 hb3
    go_wp2_with fail
    refine (onceAny a3 l' c3 w3 R3.out (by omega)).mono ?_
    rintro e w4 ⟨v4, rfl, hown4, hb4⟩
    have hown5 := hown4.2
    have hlen : (sqz l').length ≤ 1000000 := by omega
    generalize sqz l' = s at *
    have B4 := bl B3 hb4
    have TAIL : Hid (∀ W : World, Below w3.heap.size w3 W → Calls Try.prog 39 #[.slice (some ⟨W.heap.size, 0, none⟩) 2 2] (W.alloc (.cells #[.slice a1 n c1, .slice a2 n c2] 41)) fun e w' =>
        e = .returned (.bool true) ∧ Below w.heap.size w w' ∧ Rd (.int .u32) w' a3 l' ∧ Rd (.int .u32) w' a' l') := by
      intro W hW
      obtain ⟨g1, p1, p2, p3⟩ := HO1.out
      obtain ⟨g2, q1, q2, q3⟩ := HO2.out
      have z1 := hb1.size
      have z2 := hb2.size
      have z3 := hb3.size
      have z4 := hW.size
      have hAl : Below W.heap.size W (W.alloc (.cells #[.slice a1 n c1, .slice a2 n c2] 41)) := (Below.refl _ _).alloc (Nat.le_refl _) _
      have hz : (W.alloc (.cells #[.slice a1 n c1, .slice a2 n c2] 41)).heap.size = W.heap.size + 1 := by simp
      have st1 : ∀ b, b < w1.heap.size → (W.alloc (.cells #[.slice a1 n c1, .slice a2 n c2] 41)).heap[b]? = w1.heap[b]? := fun b hb => (hAl.block b (by omega)).trans ((hW.block b (by omega)).trans ((hb3.block b (by omega)).trans (hb2.block b hb)))
      have st2 : ∀ b, b < w2.heap.size → (W.alloc (.cells #[.slice a1 n c1, .slice a2 n c2] 41)).heap[b]? = w2.heap[b]? := fun b hb => (hAl.block b (by omega)).trans ((hW.block b (by omega)).trans (hb3.block b hb))
      have st3 : ∀ b, b < w3.heap.size → (W.alloc (.cells #[.slice a1 n c1, .slice a2 n c2] 41)).heap[b]? = w3.heap[b]? := fun b hb => (hAl.block b (by omega)).trans (hW.block b hb)
      refine (apart2 a1 a2 n n c1 c2 g1 g2 W.heap.size 2 w.heap.size _ ?_ ?_ (by simp) ?_ ?_ ?_ ⟨p2, by unfold maxLen at p3; omega⟩ ⟨q2, by unfold maxLen at q3; omega⟩ (by simp; omega)).mono ?_
      · rw [World.cell?_alloc_at _ _ _ _ rfl]; rfl
      · rw [World.cell?_alloc_at _ _ _ _ rfl]; rfl
      · intro hc
        obtain ⟨r1, r2, r3, cu, r4, r5⟩ := p1 hc
        exact ⟨r1, r2, by omega, cu, (st1 _ r3).trans r4, r5⟩
      · intro hc
        obtain ⟨r1, r2, r3, cu, r4, r5⟩ := q1 hc
        exact ⟨r1, by omega, by omega, cu, (st2 _ r3).trans r4, r5⟩
      · intro hc hc' e
        have := (p1 hc).2.2.1
        have := (q1 hc').2.1
        omega
      · rintro e w' ⟨he, hb5, hf5⟩
        have hbb : Below w.heap.size w w' := (bl (bl B3 hW) hAl).trans hb5
        refine ⟨he, hbb, ?_, H'.out.below hbb⟩
        refine rd_heap R3.out fun b off e => ?_
        obtain ⟨u1, u2⟩ := HB3.out b off e
        exact ⟨(hf5 b (by omega) (fun hc => by have := (p1 hc).2.2.1; omega) (fun hc => by have := (q1 hc).2.2.1; omega)).trans (st3 b u2), by have := hb5.size; omega⟩
    clear HO1 HO2 HB3
    rcases hown5 with ⟨rfl, h0⟩ | ⟨g, cap, cur, rfl, hg, hh, hcc, hm2, hs, htk⟩
    · rw [h0] at hlen
      go_wp2
      go_loopw [41] (fun i wr => i = .int .i64 0 ∧ Below w3.heap.size w3 wr) (fun _ _ => 0)
      case atStart => exact ⟨rfl, hb4⟩
      case round =>
        obtain ⟨rfl, hb5⟩ := hrel
        have T := Lib.hid (TAIL.out wr hb5)
        go_wp2_with fail
        refine T.out.mono ?_
        rintro e w6 ⟨rfl, B6, r6, r7⟩
        have R6 := Lib.hid r6
        have R7 := Lib.hid r7
        clear r6 r7 T TAIL H' R3
        go_wp2_with fail
        refine (same_names a3 a' l' l' c3 c' w6 R6.out R7.out (by omega) (by omega)).mono ?_
        rw [show decide (l' = l') = true by simp]
        rintro e w7 ⟨rfl, hb7⟩
        go_wp2_with fail
        refine (AW.out w7).mono ?_
        rintro e w8 ⟨rfl, hb8⟩
        go_wp2_with fail
        go_ret
        exact ⟨rfl, bl (bl B6 hb7) hb8⟩
    · have hlt := (Array.getElem?_eq_some_iff.1 hh).1
      have HM : Hid (w3.heap.size ≤ g ∧ cap ≤ maxLen) := ⟨hg, hm2⟩
      clear hm2 hown4
      go_wp2
      go_loopw [41] (fun i wr => ∃ (k : Nat) (cu : Array Value), i = .int .i64 k ∧ k ≤ s.length ∧ Hid (wr.heap[g]? = some (.cells cu 52 (0, 0))) ∧ s.length ≤ cu.size ∧ Below w3.heap.size w3 wr) (fun i _ => s.length - (intOf i).toNat)
      case atStart => exact ⟨0, cur, rfl, Nat.zero_le _, hh, by omega, hb4⟩
      case round =>
        obtain ⟨k, cu, rfl, hk, HH, hcu, hb5⟩ := hrel
        by_cases hkl : k < s.length
        · have hcell : wr.cell? ⟨g, k, none⟩ = some cu[k] := by
            unfold World.cell?
            simp only [HH.out]
            simp [show k < cu.size by omega]
          have hfr : wr.frozen? ⟨g, k, none⟩ = false := by
            unfold World.frozen?
            simp [HH.out]
          have HH2 : Hid ((wr.setCell ⟨g, k, none⟩ (.int .u32 7)).heap[g]? = some (.cells (cu.setIfInBounds k (.int .u32 7)) 52 (0, 0))) := by
            show (wr.heap.modify g _)[g]? = _
            rw [Array.getElem?_modify, if_pos rfl, HH.out]
            rfl
          generalize cu[k] = old at *
          clear htk hs H'
          go_wp2
          go_roundw
          case rel => exact ⟨k + 1, _, by go_num, by omega, HH2, by simp; omega, hb5.setCell HM.out.1 _⟩
          case measure => simp [intOf]; omega
        · obtain rfl : k = s.length := by omega
          have T := Lib.hid (TAIL.out wr hb5)
          go_wp2_with fail
          refine T.out.mono ?_
          rintro e w6 ⟨rfl, B6, r6, r7⟩
          have R6 := Lib.hid r6
          have R7 := Lib.hid r7
          clear r6 r7 T TAIL H' R3
          go_wp2_with fail
          refine (same_names a3 a' l' l' c3 c' w6 R6.out R7.out (by omega) (by omega)).mono ?_
          rw [show decide (l' = l') = true by simp]
          rintro e w7 ⟨rfl, hb7⟩
          go_wp2_with fail
          refine (AW.out w7).mono ?_
          rintro e w8 ⟨rfl, hb8⟩
          go_wp2_with fail
          go_ret
          exact ⟨rfl, bl (bl B6 hb7) hb8⟩
end Go.Proofs.Ytlhmipjbpbbcbaa
