/- The walk of the law SortRises. -/
import Derived.Test.YtlhmipjbpbbcbaaKeyR
import Derived.Test.YtlhmipjbpbbcbaaKeyL1
namespace Go.Proofs.Ytlhmipjbpbbcbaa
open Go.RowKit

theorem rd_owned {α : Type} {enc : α → Value} {w : World} {base : Nat} {e : TypeId} {a : Option Addr} {n c : Nat} {l : List α} (h : w.ownsRow base e 1 (.slice a n c) n (l.map enc)) : Rd enc w a l := by
  obtain ⟨a2, c2, e2, _, _, hr⟩ := Rd.of_owns h
  injection e2 with e3 e4 e5
  rw [e3]
  exact hr

theorem kRisesOf (a : Option Addr) (l : List (Int × Int)) (n c : Nat) (W : World) (hn : l.length = n) (h : RdK eKey 2 W a l) (hsz : n ≤ 200000) (a' : Option Addr) (c' : Nat) (h' : Rd eNat W a' (ordL l)) :
    Calls Try.prog 38 #[.slice a n c, .slice a' n c'] W fun e w' => e = .returned (.bool true) ∧ Below W.heap.size W w' := by
  exact kRises a a' l (ordL l) n c c' W hn h (by rw [ordL_len, hn]) h' hsz (fun x hx => by rw [← hn]; exact ordL_lt l x hx) (ordL_nodup l) (ordL_may l)

set_option maxRecDepth 100000 in
set_option maxHeartbeats 2000000 in
theorem wSortRises (a : Option Addr) (l : List (Int × Int)) (n c : Nat) (w : World) (hn : l.length = n) (h : RdK eKey 2 w a l) :
    Calls Try.prog 10 #[.slice a n c] w fun e w' => e = .returned (.bool true) ∧ Below w.heap.size w w' := by
  have AW := Lib.hid awake03
  have HN := Lib.hid hn
  have H := Lib.hid h
  clear hn h
  by_cases h3000 : 3000 < n
  · go_enter Try.func10, Try.ntmps10
    go_wp2_with fail
    refine (AW.out w).mono ?_
    rintro e w1 ⟨rfl, hb⟩
    go_wp2_with fail
    go_ret
    exact ⟨rfl, hb⟩
  · have C1 := Lib.hid (kOrdN a l n c w HN.out H.out (by omega))
    go_enter Try.func10, Try.ntmps10
    go_wp2_with fail
    refine C1.out.mono ?_
    rintro e w1 ⟨a1, c1, rfl, hc1, hown, hb1⟩
    clear C1
    have hr := rd_owned hown
    have C2 := Lib.hid (kRisesOf a l n c w1 HN.out (H.out.below hb1) (by omega) a1 c1 hr)
    clear hown hr H
    go_wp2_with fail
    refine C2.out.mono ?_
    rintro e w2 ⟨rfl, hb2⟩
    have B2 := bl hb1 hb2
    clear C2
    go_wp2_with fail
    refine (AW.out w2).mono ?_
    rintro e w3 ⟨rfl, hb3⟩
    go_wp2_with fail
    go_ret
    exact ⟨rfl, bl B2 hb3⟩

end Go.Proofs.Ytlhmipjbpbbcbaa
