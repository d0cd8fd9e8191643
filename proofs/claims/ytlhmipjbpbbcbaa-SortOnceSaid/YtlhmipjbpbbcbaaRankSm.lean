/- The walk of the law RankSqueeze. -/
import Derived.Test.YtlhmipjbpbbcbaaRankQ
import Derived.Maps.OwnSet
namespace Go.Proofs.Ytlhmipjbpbbcbaa
open Go.RowKit Go.Maps

/-- numbers as keys -/
def keys (k : IntKind) (l : List Int) : List Lit := l.map (Lit.int k)

theorem keys_ok (k : IntKind) (l : List Int) : ∀ x ∈ keys k l, WideAt.IsKeyLit x := by
  intro x hx
  obtain ⟨y, _, rfl⟩ := List.mem_map.1 hx
  trivial

theorem any_keys (k : IntKind) (l : List Int) (x : Int) : (keys k l).any (fun y => y.sameKey (.int k x)) = decide (x ∈ l) := by
  induction l with
  | nil => rfl
  | cons y l ih =>
    unfold keys at *
    rw [List.map_cons, List.any_cons, ih]
    by_cases e : y = x
    · subst e
      have : (Lit.int k y).sameKey (.int k y) = true := WideAt.sameKey_self trivial
      simp [this]
    · have h1 : Lit.int k y ≠ .int k x := fun h => e (by cases h; rfl)
      have h2 : x ≠ y := fun h => e h.symm
      rw [Maps.sameKey_ne h1]
      simp [h2]

/-- each number once, as they came -/
def firsts (l : List Int) : List Int := l.foldl (fun acc x => if x ∈ acc then acc else acc ++ [x]) []

theorem firsts_keys (k : IntKind) : ∀ (l acc : List Int), (keys k l).foldl Maps.addKey (keys k acc) = keys k (l.foldl (fun acc x => if x ∈ acc then acc else acc ++ [x]) acc)
  | [], _ => rfl
  | x :: l, acc => by
    unfold keys
    rw [List.map_cons, List.foldl_cons, List.foldl_cons]
    have h : Maps.addKey (keys k acc) (.int k x) = keys k (if x ∈ acc then acc else acc ++ [x]) := by
      unfold Maps.addKey
      rw [any_keys]
      by_cases e : x ∈ acc
      · simp [e]
      · simp [e, keys]
    have := firsts_keys k l (if x ∈ acc then acc else acc ++ [x])
    unfold keys at h this
    rw [h]
    exact this

theorem firsts_nodup : ∀ (l acc : List Int), acc.Nodup → (l.foldl (fun acc x => if x ∈ acc then acc else acc ++ [x]) acc).Nodup ∧ ∀ x, x ∈ l.foldl (fun acc x => if x ∈ acc then acc else acc ++ [x]) acc ↔ x ∈ acc ∨ x ∈ l
  | [], acc, h => by simp [h]
  | y :: l, acc, h => by
    rw [List.foldl_cons]
    by_cases e : y ∈ acc
    · rw [if_pos e]
      obtain ⟨h1, h2⟩ := firsts_nodup l acc h
      refine ⟨h1, fun x => ?_⟩
      rw [h2]
      simp only [List.mem_cons]
      constructor
      · rintro (h | h) <;> simp [h]
      · rintro (h | rfl | h) <;> simp [*]
    · rw [if_neg e]
      obtain ⟨h1, h2⟩ := firsts_nodup l (acc ++ [y]) (by rw [List.nodup_append]; simp [h]; intro a ha hay; subst hay; exact e ha)
      refine ⟨h1, fun x => ?_⟩
      rw [h2]
      simp only [List.mem_append, List.mem_cons, List.not_mem_nil, or_false, or_assoc]

theorem nodup_le : ∀ (a b : List Int), a.Nodup → (∀ x ∈ a, x ∈ b) → a.length ≤ b.length
  | [], b, _, _ => Nat.zero_le _
  | x :: a, b, h, hs => by
    rw [List.nodup_cons] at h
    have hx := hs x (by simp)
    have h2 : ∀ y ∈ a, y ∈ b.erase x := by
      intro y hy
      have hne : y ≠ x := fun e => h.1 (e ▸ hy)
      exact (List.mem_erase_of_ne hne).2 (hs y (by simp [hy]))
    have := nodup_le a (b.erase x) h.2 h2
    rw [List.length_erase_of_mem hx] at this
    have : 0 < b.length := List.length_pos_of_mem hx
    simp only [List.length_cons]
    omega

theorem size_keys {H : Type} (u : DataW H) (k : IntKind) (l s : List Int) (h1 : s.Nodup) (h2 : ∀ x, x ∈ s ↔ x ∈ l) : Maps.size (Maps.setOf u (keys k l)) = s.length := by
  rw [Maps.size_setOf u _ (keys_ok k l)]
  have h := firsts_keys k l []
  have e : keys k [] = [] := rfl
  rw [e] at h
  rw [h]
  obtain ⟨h3, h4⟩ := firsts_nodup l [] (by simp)
  show (List.map _ _).length = _
  rw [List.length_map]
  refine Nat.le_antisymm (nodup_le _ _ h3 fun x hx => ?_) (nodup_le _ _ h1 fun x hx => ?_)
  · exact (h2 x).2 (by simpa using (h4 x).1 hx)
  · exact (h4 x).2 (.inr ((h2 x).1 hx))

theorem rising_nodup {s : List Int} (h : s.Pairwise (· < ·)) : s.Nodup := h.imp (fun h => Int.ne_of_lt h)

/-- a number that is there stands at the place that is told of it -/
theorem rkFirst_at (s : List Int) (x : Int) (hs : s.Pairwise (· < ·)) (hx : x ∈ s) : ∃ h : (rkFirst s x).1 < s.length, s[(rkFirst s x).1] = x := by
  have hp : ∀ i j, i ≤ j → j < s.length → decide (x ≤ s.getD i 0) = true → decide (x ≤ s.getD j 0) = true := by
    intro i j hij hj h
    simp [show i < s.length by omega] at h
    simp [hj]
    by_cases e : i = j
    · subst e; exact h
    · have := List.pairwise_iff_getElem.1 hs i j (by omega) hj (by omega)
      omega
  obtain ⟨h1, h2, h3⟩ := bsrch_place (fun i => decide (x ≤ s.getD i 0)) s.length hp s.length 0 s.length 0 (by omega) (Nat.zero_le _) (Nat.le_refl _) (fun t ht => absurd ht (Nat.not_lt_zero _)) (fun t h4 h5 => by omega)
  show ∃ h : (bsrch (fun i => decide (x ≤ s.getD i 0)) s.length 0 s.length 0).1 < s.length, s[(bsrch (fun i => decide (x ≤ s.getD i 0)) s.length 0 s.length 0).1] = x
  generalize (bsrch (fun i => decide (x ≤ s.getD i 0)) s.length 0 s.length 0).1 = b at *
  obtain ⟨t, ht, e⟩ := List.getElem_of_mem hx
  have hbt : b ≤ t := by
    apply Classical.byContradiction
    intro hlt
    have := h2 t (by omega)
    simp [ht] at this
    omega
  have hb : b < s.length := by omega
  have h4 := h3 b (Nat.le_refl _) hb
  simp [hb] at h4
  refine ⟨hb, ?_⟩
  by_cases e2 : b = t
  · subst e2; exact e
  · have := List.pairwise_iff_getElem.1 hs b t hb ht (by omega)
    omega

set_option maxRecDepth 100000 in
set_option maxHeartbeats 2000000 in
theorem wRankSqueeze (a : Option Addr) (l : List Int) (c : Nat) (w : World) (h : Rd (.int .i64) w a l) (hm : l.length ≤ 9223372036854775807) (hw : ∀ x ∈ l, (Lit.int .i64 x).wf = true) :
    Calls Try.prog 6 #[.slice a l.length c] w fun e w' => e = .returned (.bool true) ∧ Below w.heap.size w w' := by
  have AW := Lib.hid awake04
  have hmm := @run_makeMap Try.prog
  by_cases h2000 : 2000 < l.length
  · clear h
    go_enter Try.func6, Try.ntmps6
    go_wp2_with fail
    refine (AW.out w).mono ?_
    rintro e w1 ⟨rfl, hb⟩
    go_wp2_with fail
    go_ret
    exact ⟨rfl, hb⟩
  · have C1 := Lib.hid (rSqueeze a l c w h (by omega))
    have H := Lib.hid h
    have HW := Lib.hid hw
    have F1 := Lib.hid (sqz_facts l).1
    have F2 := Lib.hid (sqz_facts l).2.1
    have hS := (sqz_facts l).2.2
    clear h hw
    generalize sqz l = s at *
    go_enter Try.func6, Try.ntmps6
    go_wp2_with fail
    refine C1.out.mono ?_
    rintro e w1 ⟨v1, rfl, hown, hb1⟩
    obtain ⟨a1, c1, rfl, _, _, hr⟩ := Rd.of_owns hown
    have R1 := Lib.hid hr
    clear hr hown C1
    go_wp2
    go_loopw [19] (fun i wr => ∃ k : Nat, i = .int .i64 k ∧ k ≤ l.length ∧ Below w1.heap.size w1 wr ∧ Hid (wr.ownsMap (H := Unit) Try.prog 2 (plainElem Try.prog 3) w1.heap.size k (Maps.setOf (.lit (.int .i64 1)) (keys .i64 (l.take k))))) (fun i _ => l.length - (intOf i).toNat)
    case atStart => exact ⟨0, rfl, Nat.zero_le _, (Below.refl _ _).alloc (Nat.le_refl _) _, World.ownsMap_made _ _ _ _⟩
    case round =>
      obtain ⟨k, rfl, hk, hb2, HO⟩ := hrel
      by_cases hlt : k < l.length
      · have B2 := hb1.trans (hb2.mono hb1.size)
        obtain ⟨b, off, ea, hbl, hc⟩ := (H.out.below B2).get (by omega)
        have hx := hc k hlt
        have hmem : l[k] ∈ s := (F2.out _).2 (List.getElem_mem _)
        obtain ⟨p1, p2⟩ := rkFirst_at s l[k] F1.out hmem
        have et : l.take (k + 1) = l.take k ++ [l[k]] := List.take_succ_eq_append_getElem hlt
        have hkey : Hid (keyOf Try.prog 2 (.int .i64 l[k]) = some (.int .i64 l[k])) := keyOf_int_mk Try.underlying2 (HW.out _ (List.getElem_mem _))
        have hS1 := hb2.size
        have hown := HO.out
        obtain ⟨b', off', ea', hbl', hc'⟩ := R1.out.get (by omega)
        have hx' := hc' (rkFirst s l[k]).1 p1
        rw [p2] at hx'
        have CF : Hid (∀ W, Below w1.heap.size wr W → Calls Try.prog 17 #[.slice a1 s.length c1, .int .i64 l[k]] W fun e w' => e = .returned (.tuple #[.int .i64 (rkFirst s l[k]).1, .int .i64 (rkFirst s l[k]).2]) ∧ Below W.heap.size W w') :=
          fun W hW => rFirst a1 s c1 l[k] W (R1.out.below (hb2.trans hW)) (by omega)
        have KEYS : Hid (keys .i64 (l.take (k + 1)) = keys .i64 (l.take k) ++ [.int .i64 l[k]]) := by unfold keys; rw [et, List.map_append]; rfl
        generalize rkFirst s l[k] = r at *
        obtain ⟨r1, r2⟩ := r
        simp only at p1 hx' CF
        clear HO et hmem p2 hc hc' HW F1 F2
        have EA := Lib.hid ea
        have EA' := Lib.hid ea'
        clear ea ea'
        generalize l[k] = x at *
        obtain rfl := EA.out
        clear EA
        go_wp2_with (at_mapUpdate; refine wpList_mapUpdate_own _ rfl _ _ _ 33 rfl 2 3 (int_keyed Try.underlying2) Try.underlying33 _ w1.heap.size k _ rfl hown (by unfold maxLen; omega) _ _ _ rfl rfl hkey.out _ [] (plainElem_int Try.underlying3 (by decide)) ?_; intro w3 hown3 hgrow3)
        have B3 : Below w1.heap.size wr w3 := grown_below hgrow3 hS1 (Nat.le_refl _)
        have HO3 := Lib.hid hown3
        have B4 := hb2.trans B3
        have x3 := (B4.cell (p := ⟨b', off' + r1, none⟩) hbl').trans hx'
        clear hown3 hgrow3 hown hx'
        go_wp2_with fail
        refine (CF.out w3 B3).mono ?_
        rintro e w4 ⟨rfl, hb4⟩
        have B5 := B4.trans (hb4.mono B4.size)
        have x4 := (hb4.cell (p := ⟨b', off' + r1, none⟩) (Nat.lt_of_lt_of_le hbl' B4.size)).trans x3
        have HO4 : Hid (w4.ownsMap (H := Unit) Try.prog 2 (plainElem Try.prog 3) w1.heap.size (k + 1) (Maps.setOf (.lit (.int .i64 1)) (keys .i64 (l.take (k + 1))))) := by
          rw [KEYS.out, Maps.setOf_snoc]
          exact HO3.out.kept (below_asGrown hb4) (by simp)
        have hne : (x != x) = false := by simp
        clear x3 HO3 CF B3 hb4 R1
        obtain rfl := EA'.out
        clear EA'
        go_wp2
        go_roundw
        case rel => exact ⟨k + 1, by go_num, by omega, B5, HO4⟩
        case measure => simp [intOf]; omega
      · obtain rfl : k = l.length := by omega
        have hsz : Maps.size (Maps.setOf (H := Unit) (.lit (.int .i64 1)) (keys .i64 l)) = s.length := size_keys _ _ l s (rising_nodup F1.out) F2.out
        have hown := HO.out
        rw [List.take_length] at hown
        have B2 := hb1.trans (hb2.mono hb1.size)
        have R2 := Lib.hid (R1.out.below hb2)
        have HO2 := Lib.hid hown
        have HSZ := Lib.hid hsz
        clear HO R1 H HW hown hsz hlt hk
        obtain ⟨wo, ewo⟩ : ∃ wo : World, wo = wr := ⟨_, rfl⟩
        subst ewo
        go_wp2
        go_loopw [9] (fun i wr2 => ∃ k : Nat, i = .int .i64 k ∧ 1 ≤ k ∧ k ≤ s.length + 1 ∧ Below wo.heap.size wo wr2) (fun i _ => s.length + 1 - (intOf i).toNat)
        case atStart => exact ⟨1, rfl, Nat.le_refl _, by omega, Below.refl _ _⟩
        case round =>
          obtain ⟨k, rfl, hk1, hk2, hb3⟩ := hrel
          by_cases hlt : k < s.length
          · obtain ⟨b, off, ea, hbl, hc⟩ := (R2.out.below hb3).get (by omega)
            have hx := hc k hlt
            have hy := hc (k - 1) (by omega)
            have hlt2 := List.pairwise_iff_getElem.1 F1.out (k - 1) k (by omega) hlt (by omega)
            have e1 : ((k : Int) - 1).toNat = k - 1 := by omega
            have hd : decide (s[k] ≤ s[k - 1]) = false := by simp; omega
            have hki : (0 : Int) ≤ (k : Int) - 1 := by omega
            have hki2 : (k : Int) - 1 < (s.length : Int) := by omega
            have hki3 : (k : Int) < (s.length : Int) := by omega
            clear hc
            generalize s[k] = x at *
            generalize s[k - 1] = y at *
            subst ea
            go_wp2
            go_quiet (fail)
            go_wp2
            go_roundw
            case rel => exact ⟨k + 1, by go_num, by omega, by omega, hb3.trans (Below.drewAny _ _)⟩
            case measure => simp [intOf]; omega
          · have B3 := B2.trans (hb3.mono B2.size)
            have R3 := Lib.hid (R2.out.below hb3)
            have hown3 := HO2.out.kept (below_asGrown hb3) (by simp)
            have hsize := HSZ.out
            go_wp2_with (at_len; refine wpList_len_own _ rfl _ 33 rfl 2 3 Try.underlying33 _ w1.heap.size _ _ rfl hown3 ?_; rw [hsize])
            refine (rSqueeze a1 s c1 wr R3.out (by omega)).mono ?_
            rintro e w5 ⟨v5, rfl, hown5, hb5⟩
            rw [show sqz s = s from sqz_of s s F1.out (fun _ => Iff.rfl)] at hown5
            obtain ⟨a5, c5, rfl, _, _, hr5⟩ := Rd.of_owns hown5
            have R5 := Lib.hid hr5
            clear hr5 hown5
            have B5 := B3.trans (hb5.mono B3.size)
            go_wp2_with fail
            refine (same_longs a5 a1 s s c5 c1 w5 R5.out (R3.out.below hb5) (by omega) (by omega)).mono ?_
            rw [show decide (s = s) = true by simp]
            rintro e w6 ⟨rfl, hb6⟩
            have B6 := B5.trans (hb6.mono B5.size)
            go_wp2_with fail
            refine (AW.out w6).mono ?_
            rintro e w7 ⟨rfl, hb7⟩
            go_wp2_with fail
            go_ret
            exact ⟨rfl, B6.trans (hb7.mono B6.size)⟩

end Go.Proofs.Ytlhmipjbpbbcbaa
