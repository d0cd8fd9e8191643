/- slices.Backward of points, as an iterator. -/
import Derived.Test.YtpebefcmloablaaPtS
import Derived.RangeFuncNested
import Derived.RangeFuncBound
import Derived.RangeFuncCalls
import Derived.RangeFuncLeaves
import Derived.RangeFuncBox
import Derived.Shelf.Abstract
import Derived.Shelf.RegionOpen
import Derived.OwnWalkIn
import Derived.TacticsInMore
import Derived.LoopNIn
import Derived.LoopIn
namespace Go.Proofs.Ytpebefcmloablaa
open Go.RowKit Go.Shelf

attribute [local go_sem] Oper.semAt_some

/-- what lay below n₀ stands, and so does block Bs -/
def Kp2 (n₀ Bs : Nat) (W W' : World) : Prop := Below n₀ W W' ∧ W'.heap[Bs]? = W.heap[Bs]?
theorem Kp2.refl (n₀ Bs : Nat) (W : World) : Kp2 n₀ Bs W W := ⟨Below.refl _ _, rfl⟩
theorem Kp2.trans {n₀ Bs : Nat} {A B C : World} (h : Kp2 n₀ Bs A B) (h2 : Kp2 n₀ Bs B C) : Kp2 n₀ Bs A C := ⟨h.1.trans h2.1, h2.2.trans h.2⟩

/-- the first k that come, from the last one on -/
def bk (zs : List Pt) (k : Nat) : List (Nat × Pt) := (List.range k).map fun j => (zs.length - 1 - j, zs.getD (zs.length - 1 - j) (0, 0, 0))
theorem bk_len (zs : List Pt) (k : Nat) : (bk zs k).length = k := by simp [bk]
theorem bk_succ (zs : List Pt) (k : Nat) : bk zs (k + 1) = bk zs k ++ [(zs.length - 1 - k, zs.getD (zs.length - 1 - k) (0, 0, 0))] := by simp [bk, List.range_succ]
/-- the points that have come, in the slice's own order -/
theorem bk_rev (zs : List Pt) : ∀ k, k ≤ zs.length → ((bk zs k).map (·.2)).reverse = zs.drop (zs.length - k)
  | 0, _ => by simp [bk]
  | k + 1, h => by
    rw [bk_succ, List.map_append, List.reverse_append, bk_rev zs k (by omega)]
    have e : zs.drop (zs.length - (k + 1)) = zs[zs.length - (k + 1)] :: zs.drop (zs.length - (k + 1) + 1) := List.drop_eq_getElem_cons (by omega)
    rw [e, show zs.length - (k + 1) + 1 = zs.length - k by omega]
    simp [show zs.length - 1 - k = zs.length - (k + 1) by omega, show zs.length - (k + 1) < zs.length by omega]

set_option maxRecDepth 100000 in
set_option maxHeartbeats 2000000 in
theorem back1_in (n : Nat) (hn : 1 ≤ n) (l Bs n₀ b off len cap : Nat) (zs : List Pt) (hz : zs.length = len) (hlen : len ≤ 1000000) (hb : b < n₀) (J Jx : List (Nat × Pt) → World → Prop)
    (hY : ∀ pre x W, J pre W → pre.length < len → YieldAt Fence.wide (n - 1) Try.prog l #[.int .i64 (x.1 : Int), vPt x.2.1 x.2.2.1 x.2.2.2] W fun e W' =>
      (e = .returned (.bool true) ∧ J (pre ++ [x]) W' ∧ Kp2 n₀ Bs W W') ∨ (e = .returned (.bool false) ∧ Jx (pre ++ [x]) W'))
    (W : World) (hBs : W.cell? ⟨Bs, 0, none⟩ = some (.slice (some ⟨b, off, none⟩) len cap)) (hc : RdK ePt 3 W (some ⟨b, off, none⟩) zs) (h0 : J [] W) :
    CallsIn Fence.wide n Try.prog 83 #[.func (.yield l) #[] #[], .pointer (some ⟨Bs, 0, none⟩)] W fun e W' => (∃ v, e = .returned v) ∧
      ((∃ ys, ys = bk zs len ∧ J ys W') ∨ (∃ pre, (∃ k, k ≤ len ∧ pre = bk zs k) ∧ Jx pre W')) := by
  have HC := Lib.hid hc
  have HZ := Lib.hid hz
  clear hc hz
  refine callsIn_of_wp Try.func83 rfl trivial ?_ rfl
  simp only [Try.ntmps83, List.size_toArray, List.length_cons, List.length_nil, Nat.reduceAdd, Nat.reduceSub, Array.replicate_succ, Array.replicate_zero, List.push_toArray, List.append_toArray, List.nil_append, List.cons_append]
  gi_wp2
  gi_loopw [3] (fun i wr => ∃ m : Nat, m ≤ len ∧ i = .int .i64 ((m : Int) - 1) ∧ J (bk zs (len - m)) wr ∧ Kp2 n₀ Bs W wr)
    (fun i _ => (intOf i + 1).toNat)
  case atStart => exact ⟨len, Nat.le_refl _, rfl, by rw [Nat.sub_self]; exact h0, Kp2.refl _ _ _⟩
  case round =>
    obtain ⟨m, hm, rfl, hJs, hk⟩ := hrel
    have hbs := (World.cell?_of_block (w := W) (w' := wr) (a := ⟨Bs, 0, none⟩) hk.2).trans hBs
    cases m with
    | zero =>
      have g0 : ¬ ((0 : Int) ≤ ((0 : Nat) : Int) - 1) := by omega
      gi_wp2
      go_end0
      exact ⟨⟨_, rfl⟩, .inl (by simpa using hJs)⟩
    | succ m =>
      have hml : m < zs.length := by rw [HZ.out]; omega
      have hpos : 0 < len := by omega
      obtain ⟨b', off', eb, hbl, hcs⟩ := HC.out.get (by omega)
      have x0 := hcs m hml 0 (by omega)
      have x1 := hcs m hml 1 (by omega)
      have x2 := hcs m hml 2 (by omega)
      injection eb with eb
      injection eb with eb1 eb2 _
      subst eb1 eb2
      have y0 := (hk.1.cell (p := ⟨b, off + m * 3 + 0, none⟩) hb).trans x0
      have y1 := (hk.1.cell (p := ⟨b, off + m * 3 + 1, none⟩) hb).trans x1
      have y2 := (hk.1.cell (p := ⟨b, off + m * 3 + 2, none⟩) hb).trans x2
      simp only [ePt, List.getElem?_cons_zero, List.getElem?_cons_succ, Nat.add_zero] at y0 y1 y2
      have hst : bk zs (len - m) = bk zs (len - (m + 1)) ++ [(m, zs[m])] := by
        have := bk_succ zs (len - (m + 1))
        rw [show len - (m + 1) + 1 = len - m by omega] at this
        rw [this, show zs.length - 1 - (len - (m + 1)) = m by rw [HZ.out]; omega]
        simp [hml]
      obtain ⟨fn, tmps, assign, body, hy, hR⟩ := hY _ (m, zs[m]) wr hJs (by rw [bk_len]; omega)
      dsimp only at hy
      rw [← hst] at hR
      have HST := Lib.hid hst
      clear hcs x0 x1 x2 hst
      generalize zs[m] = p at *
      obtain ⟨px, py, pi⟩ := p
      simp only at y0 y1 y2 hy
      have e1 : ((m + 1 : Nat) : Int) - 1 = (m : Int) := by omega
      rw [e1]
      clear e1 hml
      gi_wp2
      refine hR.mono ?_
      rintro e W3 (⟨rfl, hJ3, hk3⟩ | ⟨rfl, hJx3⟩)
      · gi_wp2
        go_roundw
        case rel => exact ⟨m, by omega, by simp, hJ3, hk.trans hk3⟩
        case measure => simp [intOf]
      · gi_wp2
        refine bodyPost_ret (results_none rfl _ _ _) rfl ?_
        exact ⟨⟨_, rfl⟩, .inr ⟨_, ⟨len - m, by omega, rfl⟩, hJx3⟩⟩

set_option maxRecDepth 100000 in
set_option maxHeartbeats 1000000 in
theorem back1_nil_in (n : Nat) (l Bs : Nat) (a : Option Addr) (cap : Nat) (J : List (Nat × Pt) → World → Prop) (W : World) (hBs : W.cell? ⟨Bs, 0, none⟩ = some (.slice a 0 cap)) (h0 : J [] W) :
    CallsIn Fence.wide n Try.prog 83 #[.func (.yield l) #[] #[], .pointer (some ⟨Bs, 0, none⟩)] W fun e W' => (∃ v, e = .returned v) ∧ J [] W' := by
  refine callsIn_of_wp Try.func83 rfl trivial ?_ rfl
  simp only [Try.ntmps83, List.size_toArray, List.length_cons, List.length_nil, Nat.reduceAdd, Nat.reduceSub, Array.replicate_succ, Array.replicate_zero, List.push_toArray, List.append_toArray, List.nil_append, List.cons_append]
  gi_wp2
  gi_loopw [3] (fun i wr => i = .int .i64 (-1) ∧ J [] wr) (fun _ _ => 0)
  case atStart => exact ⟨rfl, h0⟩
  case round =>
    obtain ⟨rfl, hJs⟩ := hrel
    gi_wp2
    go_end0
    first | exact hJs | exact ⟨⟨_, rfl⟩, hJs⟩

theorem back_in (n : Nat) (a : Option Addr) (len cap : Nat) (w : World) :
    CallsIn Fence.wide n Try.prog 58 #[.slice a len cap] w fun e w' => e = .returned (.func (.func 83) #[] #[.pointer (some ⟨w.heap.size, 0, none⟩)]) ∧ w' = w.alloc (.cells #[.slice a len cap] 22) := by
  refine callsIn_of_wp Try.func58 rfl trivial ?_ rfl
  simp only [Try.ntmps58, List.size_toArray, List.length_cons, List.length_nil, Nat.reduceAdd, Nat.reduceSub, Array.replicate_succ, Array.replicate_zero, List.push_toArray, List.append_toArray, List.nil_append, List.cons_append]
  gi_wp2
  go_ret
  exact ⟨rfl, rfl⟩

theorem back_stops (n : Nat) (hn : 1 ≤ n) (Bs n₀ : Nat) (a : Option Addr) (len cap : Nat) (zs : List Pt) (hz : zs.length = len) (hlen : len ≤ 1000000) (w : World) (hBs : Bs < w.heap.size)
    (hc : w.cell? ⟨Bs, 0, none⟩ = some (.slice a len cap)) (hI : RdK ePt 3 w a zs) (hb : zs ≠ [] → ∀ b off, a = some ⟨b, off, none⟩ → b < n₀) :
    SeqStopsK Fence.wide n Try.prog 83 #[.pointer (some ⟨Bs, 0, none⟩)] (fun x : Nat × Pt => #[Value.int .i64 (x.1 : Int), vPt x.2.1 x.2.2.1 x.2.2.2]) (Kp2 n₀ Bs) (fun ys => ys = bk zs len)
      (fun pre => ∃ k, k ≤ len ∧ pre = bk zs k) len w := fun l J Jx W hW _ _ hY h0 => by
  have hc' := (hW.cell (p := ⟨Bs, 0, none⟩) hBs).trans hc
  have hI' := hI.below hW
  rcases hI' with rfl | ⟨b, off, rfl, hlt, hcs⟩
  · obtain rfl : len = 0 := by simpa using hz.symm
    exact (back1_nil_in n l Bs a cap J W hc' h0).mono fun e W' ⟨he, hj⟩ => ⟨he, .inl ⟨_, by simp [bk], hj⟩⟩
  · by_cases e : zs = []
    · subst e
      obtain rfl : len = 0 := by simpa using hz.symm
      exact (back1_nil_in n l Bs _ cap J W hc' h0).mono fun e W' ⟨he, hj⟩ => ⟨he, .inl ⟨_, by simp [bk], hj⟩⟩
    · exact back1_in n hn l Bs n₀ b off len cap zs hz hlen (hb e b off rfl) J Jx hY W hc' (.inr ⟨b, off, rfl, hlt, hcs⟩) h0

end Go.Proofs.Ytpebefcmloablaa
