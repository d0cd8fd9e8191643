/- Package sort: the closures of Order and Merge, places. -/
import Derived.Test.YtlhmipjbpbbcbaaKeyA
namespace Go.Proofs.Ytlhmipjbpbbcbaa
open Go.RowKit

/-- a key as the value that is handed over -/
def vKey (k : Int × Int) : Value := .agg #[.int .i64 k.1, .int .u32 k.2]

set_option maxHeartbeats 400000 in
theorem clOrder (i : Nat) (bl : Nat) (a : Option Addr) (l : List (Int × Int)) (c : Nat) (W : World) (ha : W.cell? ⟨bl, 0, none⟩ = some (.slice a l.length c))
    (h : RdK eKey 2 W a l) (hi : i < l.length) :
    Calls Try.prog 49 (#[.int .i64 i] ++ #[.pointer (some ⟨bl, 0, none⟩)]) W fun e w' => e = .returned (vKey (l.getD i (0, 0))) ∧ Below W.heap.size W w' := by
  obtain ⟨b, off, rfl, hbl, hc⟩ := h.get (by omega)
  have h0 := hc i hi 0 (by omega)
  have h1 := hc i hi 1 (by omega)
  have hg : l.getD i (0, 0) = l[i] := by simp [hi]
  rw [hg]
  clear hg hc
  simp only [eKey, List.getElem?_cons_zero, List.getElem?_cons_succ, Nat.add_zero] at h0 h1
  unfold vKey
  generalize l[i] = y at *
  obtain ⟨y1, y2⟩ := y
  simp only at h0 h1
  have hlt : (i : Int) < (l.length : Int) := by omega
  have hblt := World.block_lt_of_cell? W _ ha
  go_enter Try.func49, Try.ntmps49
  go_wp2
  exact bodyPost_ret (v := .agg #[.int .i64 y1, .int .u32 y2]) (by simp [results, Try.results49, go_sem]) rfl ⟨rfl, (Below.refl _ _).alloc (Nat.le_refl _) _⟩

theorem entersOrder : ∀ args w, (callFunc 49 args).run Try.prog w = .ok (.enter 49 args) w := enters_of Try.func49 (by kernel_rfl) rfl

set_option maxHeartbeats 400000 in
theorem clMerge (i : Nat) (ba bb : Nat) (a a' : Option Addr) (l l' : List (Int × Int)) (c c' : Nat) (W : World) (ha : W.cell? ⟨ba, 0, none⟩ = some (.slice a l.length c)) (hb : W.cell? ⟨bb, 0, none⟩ = some (.slice a' l'.length c'))
    (h : RdK eKey 2 W a l) (h' : RdK eKey 2 W a' l') (hi : i < l.length + l'.length) (hm : l.length + l'.length ≤ 1000000) :
    Calls Try.prog 55 (#[.int .i64 i] ++ #[.pointer (some ⟨ba, 0, none⟩), .pointer (some ⟨bb, 0, none⟩)]) W fun e w' => e = .returned (vKey ((l ++ l').getD i (0, 0))) ∧ Below W.heap.size W w' := by
  have hblt := World.block_lt_of_cell? W _ ha
  have hblt2 := World.block_lt_of_cell? W _ hb
  by_cases hlt : i < l.length
  · obtain ⟨b, off, rfl, hbl, hc⟩ := h.get (by omega)
    have h0 := hc i hlt 0 (by omega)
    have h1 := hc i hlt 1 (by omega)
    have hg : (l ++ l').getD i (0, 0) = l[i] := by simp [hlt, List.getElem?_append_left]
    rw [hg]
    clear hg hc
    simp only [eKey, List.getElem?_cons_zero, List.getElem?_cons_succ, Nat.add_zero] at h0 h1
    unfold vKey
    generalize l[i] = y at *
    obtain ⟨y1, y2⟩ := y
    simp only at h0 h1
    clear h h' hb
    go_enter Try.func55, Try.ntmps55
    go_wp2
    exact bodyPost_ret (v := .agg #[.int .i64 y1, .int .u32 y2]) (by simp [results, Try.results55, go_sem]) rfl ⟨rfl, (Below.refl _ _).alloc (Nat.le_refl _) _⟩
  · have hj : i - l.length < l'.length := by omega
    obtain ⟨b, off, rfl, hbl, hc⟩ := h'.get (by omega)
    have h0 := hc (i - l.length) hj 0 (by omega)
    have h1 := hc (i - l.length) hj 1 (by omega)
    have hg : (l ++ l').getD i (0, 0) = l'[i - l.length] := by simp [List.getElem?_append_right (show l.length ≤ i by omega), hj]
    rw [hg]
    clear hg hc
    simp only [eKey, List.getElem?_cons_zero, List.getElem?_cons_succ, Nat.add_zero] at h0 h1
    unfold vKey
    generalize l'[i - l.length] = y at *
    obtain ⟨y1, y2⟩ := y
    simp only at h0 h1
    have e1 : ((i : Int) - (l.length : Int)).toNat = i - l.length := by omega
    have q1 : (0 : Int) ≤ (i : Int) - (l.length : Int) := by omega
    have q2 : (i : Int) - (l.length : Int) < (l'.length : Int) := by omega
    clear h h'
    go_enter Try.func55, Try.ntmps55
    go_wp2
    exact bodyPost_ret (v := .agg #[.int .i64 y1, .int .u32 y2]) (by simp [results, Try.results55, go_sem]) rfl ⟨rfl, (Below.refl _ _).alloc (Nat.le_refl _) _⟩

theorem entersMerge : ∀ args w, (callFunc 55 args).run Try.prog w = .ok (.enter 55 args) w := enters_of Try.func55 (by kernel_rfl) rfl

/-- places as numbers -/
def eNat (j : Nat) : Value := .int .i64 j

set_option maxHeartbeats 400000 in
theorem kPlaces (f n : Nat) (w : World) (hf : f ≤ 1000000) (hn : n ≤ 1000000) :
    Calls Try.prog 50 #[.int .i64 f, .int .i64 n] w fun e w' => ∃ v, e = .returned v ∧ w'.ownsRow w.heap.size 3 1 v n ((List.range' f n).map eNat) ∧ Below w.heap.size w w' := by
  obtain ⟨ht, ⟨i, z, hi, hz, hsize, hby, hzs⟩, hsz⟩ := elInt
  go_enter Try.func50, Try.ntmps50
  go_wp2_with (at_make; refine wpList_make_full _ rfl _ _ 41 rfl w.heap.size 3 i z 1 ht hi hz hsize .i64 .i64 _ _ n rfl rfl rfl rfl (by rw [hby]; omega) (by unfold maxLen; omega) (Nat.le_refl _) ?_; intro w1 hown1 hg1)
  obtain ⟨_, hown1⟩ := hown1
  rcases hown1 with ⟨h1, _⟩ | ⟨g, cap, cur, h1, hg, hh, hcc, hm, hs, _⟩
  · cases h1
  · cases h1
    have HH := Lib.hid hh
    have b1 : Below w.heap.size w w1 := (Below.refl _ _).grown hg1 (Nat.le_refl _) (fun k hk => by cases hk)
    clear hh hg1 hi hz hsize hby hzs ht hsz
    go_wp2
    go_loopw [11] (fun i wr => ∃ (k : Nat) (cu : Array Value), i = .int .i64 k ∧ k ≤ n ∧ Hid (wr.heap[w.heap.size]? = some (.cells cu 3 (0, 0))) ∧ cu.size = n * 1 ∧ Hid (∀ j, j < k → cu[j]? = some (eNat (f + j))) ∧ Below w.heap.size w wr) (fun i _ => n - (intOf i).toNat)
    case atStart => exact ⟨0, cur, rfl, Nat.zero_le _, HH, hs, fun j hj => absurd hj (Nat.not_lt_zero _), b1⟩
    case round =>
      obtain ⟨k, cu, rfl, hk, HH2, hcu, HC, hb⟩ := hrel
      by_cases hlt : k < n
      · have hcell : wr.cell? ⟨w.heap.size, k, none⟩ = some cu[k] := by
          unfold World.cell?
          simp only [HH2.out]
          simp
        have hfr : wr.frozen? ⟨w.heap.size, k, none⟩ = false := by
          unfold World.frozen?
          simp [HH2.out]
        have HH3 : Hid ((wr.setCell ⟨w.heap.size, k, none⟩ (.int .i64 ((f : Int) + (k : Int)))).heap[w.heap.size]? = some (.cells (cu.setIfInBounds k (.int .i64 ((f : Int) + (k : Int)))) 3 (0, 0))) := by
          show (wr.heap.modify w.heap.size _)[w.heap.size]? = _
          rw [Array.getElem?_modify, if_pos rfl, HH2.out]
          rfl
        have HC3 : Hid (∀ j, j < k + 1 → (cu.setIfInBounds k (.int .i64 ((f : Int) + (k : Int))))[j]? = some (eNat (f + j))) := by
          intro j hj
          rw [Array.getElem?_setIfInBounds]
          by_cases e : k = j
          · subst e
            rw [if_pos rfl, if_pos (by omega)]
            unfold eNat
            congr 2
          · rw [if_neg e]
            exact HC.out j (by omega)
        generalize cu[k] = old at *
        have hcu' := Lib.hid hcu
        clear HC HH HH2 hcu
        go_wp2
        go_roundw
        case rel => exact ⟨k + 1, _, by go_num, by omega, HH3, by have := hcu'.out; simp; omega, HC3, hb.setCell (Nat.le_refl _) _⟩
        case measure => simp [intOf]; omega
      · obtain rfl : k = n := by omega
        have hcu' := Lib.hid hcu
        clear hcu
        go_wp2
        go_ret
        refine ⟨_, rfl, ⟨by simp, .inr ⟨w.heap.size, k, cu, rfl, Nat.le_refl _, HH2.out, Nat.le_refl _, by unfold maxLen; omega, hcu'.out, ?_⟩⟩, hb⟩
        have h5 := hcu'.out
        apply List.ext_getElem?
        intro j
        rw [List.getElem?_take]
        by_cases hj : j < k
        · rw [if_pos (by omega)]
          have := HC.out j hj
          rw [Array.getElem?_toList, this]
          simp [hj]
        · rw [if_neg (by omega)]
          exact (List.getElem?_eq_none (by simp; omega)).symm

end Go.Proofs.Ytlhmipjbpbbcbaa
