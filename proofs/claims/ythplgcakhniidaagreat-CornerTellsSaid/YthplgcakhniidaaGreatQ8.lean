/- Several texts in one: Unl, Rgt, Back, Rnd, Scan, SkyOf, RfR. -/
import Derived.Test.YthplgcakhniidaaGreatQ4
import Derived.Test.YthplgcakhniidaaGreatQ5
import Derived.Maps.OwnOps
import Derived.RangeFuncNested
import Derived.RangeFuncBound
import Derived.RangeFuncCalls
import Derived.RangeFuncLeaves
import Derived.RangeFuncBox
import Derived.Shelf.Abstract
import Derived.Shelf.RegionOpen
import Derived.OwnWalkIn
import Derived.TacticsInMore
import Derived.LoopNIn
import Derived.LoopIn
import Derived.Test.YthplgcakhniidaaGreatQ1
import Derived.Sort.QuietIn
import Derived.Test.YthplgcakhniidaaGreatQ3
import Derived.Maps.AppendAt
import Derived.Deep.AppendLies

/- stair.unlike: is no name there twice, in some lists? -/
namespace Go.Proofs.YthplgcakhniidaaGreat
open Go.RowKit Go.Maps

/-- lists of points that lie in a row of slices -/
def Lsts (W : World) (X : Nat) (LS : List (Option Addr × List Pt × Nat)) : Prop :=
  ∀ (j : Nat) (h : j < LS.length), W.cell? ⟨X, j, none⟩ = some (.slice LS[j].1 LS[j].2.1.length LS[j].2.2) ∧ RdK ePt 3 W LS[j].1 LS[j].2.1

theorem Lsts.below {W W' : World} {X B : Nat} {LS : List (Option Addr × List Pt × Nat)} (h : Lsts W X LS) (hX : X < B) (hb : Below B W W') (hB : W.heap.size ≤ B) : Lsts W' X LS := fun j hj =>
  ⟨(hb.cell (p := ⟨X, j, none⟩) hX).trans (h j hj).1, (h j hj).2.below (hb.mono hB)⟩

def allP (LS : List (Option Addr × List Pt × Nat)) : List Pt := LS.flatMap (·.2.1)
def wfI (l : List Pt) : Prop := ∀ p ∈ l, (Lit.int .u32 p.2.2).wf = true

theorem allP_take (LS : List (Option Addr × List Pt × Nat)) (j : Nat) (h : j < LS.length) : allP (LS.take (j + 1)) = allP (LS.take j) ++ LS[j].2.1 := by
  unfold allP
  rw [List.take_succ_eq_append_getElem h, List.flatMap_append, List.flatMap_singleton]
theorem allP_len (LS : List (Option Addr × List Pt × Nat)) (j : Nat) : (allP (LS.take j)).length ≤ (allP LS).length := by
  have h : allP LS = allP (LS.take j) ++ allP (LS.drop j) := by
    unfold allP; rw [← List.flatMap_append, List.take_append_drop]
  rw [h, List.length_append]; omega

/-- a map whose keys are these names -/
def KeysAre {H : Type} (D : DataW H) (L : List Int) : Prop := ∃ f s, IsM .u32 .i64 D f s ∧ ∀ x, (f x).isSome = true ↔ x ∈ L
theorem KeysAre.nil {H : Type} : KeysAre (H := H) (.map []) [] := ⟨_, _, IsM.empty _ _, by simp⟩
theorem KeysAre.put {H : Type} {D : DataW H} {L : List Int} (h : KeysAre D L) (x v : Int) : KeysAre (D.put (.int .u32 x) (.lit (.int .i64 v))) (L ++ [x]) := by
  obtain ⟨f, s, h1, h2⟩ := h
  refine ⟨_, _, h1.put x v, fun y => ?_⟩
  unfold putF
  by_cases hy : y = x
  · simp [hy]
  · simp [hy, h2]
theorem KeysAre.size {H : Type} {D : DataW H} {L : List Int} (h : KeysAre D L) : (((Maps.size D : Nat) : Int) == ((L.length : Nat) : Int)) = decide L.Nodup := by
  obtain ⟨f, s, h1, h2⟩ := h
  rw [h1.2.1, ← len_eq_nodup L s h1.2.2.1 (fun x => (h1.2.2.2.1 x).trans (h2 x))]
  rw [Bool.eq_iff_iff]
  simp only [beq_iff_eq, decide_eq_true_eq]
  omega

set_option maxRecDepth 100000 in
set_option maxHeartbeats 2000000 in
theorem unlike_calls (X c : Nat) (LS : List (Option Addr × List Pt × Nat)) (w : World) (hX : X < w.heap.size) (hL : Lsts w X LS) (hn : (allP LS).length ≤ 1000000) (hm : LS.length ≤ 1000000) (hw : wfI (allP LS)) :
    Calls Tryz.prog 45 #[.slice (some ⟨X, 0, none⟩) LS.length c] w fun e w' => e = .returned (.bool (unl (allP LS))) ∧ Below w.heap.size w w' := by
  have HL := Lib.hid hL
  have HW := Lib.hid hw
  clear hL hw
  have hmm := @run_makeMap Tryz.prog
  go_enter Tryz.func45, Tryz.ntmps45
  go_wp2
  go_loopw [4, 12] (fun nv jv wr => ∃ j : Nat, jv = .int .i64 j ∧ j ≤ LS.length ∧ nv = .int .i64 ((allP (LS.take j)).length : Nat) ∧ Below w.heap.size w wr ∧
      Hid (∃ (D : DataW Unit), wr.ownsMap Tryz.prog 32 (plainElem Tryz.prog 3) w.heap.size (allP (LS.take j)).length D ∧ KeysAre D (ids (allP (LS.take j))))) (fun _ jv _ => LS.length - (intOf jv).toNat)
  case atStart => exact ⟨0, rfl, Nat.zero_le _, rfl, (Below.refl _ _).alloc (Nat.le_refl _) _, ⟨.map [], World.ownsMap_made _ _ _ _, KeysAre.nil⟩⟩
  case round =>
    obtain ⟨j, rfl, hj, rfl, hb, HO⟩ := hrel
    by_cases hlt : j < LS.length
    · have hc := ((HL.out.below hX hb (Nat.le_refl _)) j hlt).1
      have hr := (HL.out j hlt).2
      have hlen := allP_len LS (j + 1)
      have et := allP_take LS j hlt
      rw [et, List.length_append] at hlen
      have HW2 : Hid (wfI LS[j].2.1) := fun p hp => HW.out p (by unfold allP; exact List.mem_flatMap.2 ⟨_, List.getElem_mem hlt, hp⟩)
      have ET := Lib.hid et
      clear et
      generalize LS[j] = q at *
      obtain ⟨a, l, cq⟩ := q
      simp only at hc hr hlen HW2
      have hnw : ((allP (LS.take j)).length : Int) + (l.length : Int) ≤ 1000000 := by omega
      generalize hP : allP (LS.take j) = P at *
      have HP := Lib.hid hP
      have HR := Lib.hid hr
      have HB := Lib.hid hb
      have hS1 := hb.size
      clear hP hr hb
      have hPl : P.length ≤ 1000000 := by omega
      have hll : l.length ≤ 1000000 := by omega
      generalize hNN : P.length = N at *
      obtain ⟨wo, ewo⟩ : ∃ wo : World, wo = wr := ⟨_, rfl⟩
      subst ewo
      go_wp2
      go_loopw [22] (fun iv wr2 => ∃ i : Nat, iv = .int .i64 i ∧ i ≤ l.length ∧ Below w.heap.size wo wr2 ∧
          Hid (∃ (D : DataW Unit), wr2.ownsMap Tryz.prog 32 (plainElem Tryz.prog 3) w.heap.size (N + i) D ∧ KeysAre D (ids (P ++ l.take i)))) (fun iv _ => l.length - (intOf iv).toNat)
      case atStart => exact ⟨0, rfl, Nat.zero_le _, Below.refl _ _, by simpa using HO⟩
      case round =>
        obtain ⟨i, rfl, hi, hb2, HO2⟩ := hrel
        by_cases hil : i < l.length
        · obtain ⟨b, off, ea, hbl, hcs⟩ := (HR.out.below (HB.out.trans hb2)).get (by omega)
          have x0 := hcs i hil 0 (by omega)
          have x1 := hcs i hil 1 (by omega)
          have x2 := hcs i hil 2 (by omega)
          simp only [ePt, List.getElem?_cons_zero, List.getElem?_cons_succ, Nat.add_zero] at x0 x1 x2
          have et : l.take (i + 1) = l.take i ++ [l[i]] := List.take_succ_eq_append_getElem hil
          have hkey : Hid (keyOf Tryz.prog 32 (.int .u32 l[i].2.2) = some (.int .u32 l[i].2.2)) := keyOf_int_mk Tryz.underlying32 (HW2.out _ (List.getElem_mem _))
          obtain ⟨D, hown0, hD⟩ := HO2.out
          have hD2 := hD.put l[i].2.2 i
          rw [show ids (P ++ l.take i) ++ [l[i].2.2] = ids (P ++ l.take (i + 1)) by rw [et]; unfold ids; rw [← List.append_assoc, List.map_append (l₁ := P ++ l.take i)]; rfl] at hD2
          have HD2 := Lib.hid hD2
          have hS2 := hb2.size
          have EA := Lib.hid ea
          clear HO2 et hcs hD hD2 ea
          generalize l[i] = p at *
          obtain ⟨px, py, pi⟩ := p
          obtain rfl := EA.out
          clear EA
          have hown := hown0.kept (World.grownBy_alloc wr (.cells #[.int .i64 px, .int .i64 py, .int .u32 pi] 34) none) (by simp)
          go_wp2_with (at_mapUpdate; refine wpList_mapUpdate_own _ rfl _ _ _ 66 rfl 32 3 (int_keyed Tryz.underlying32) Tryz.underlying66 _ w.heap.size (N + i) _ rfl hown (by unfold maxLen; omega) _ _ _ rfl rfl hkey.out _ [] (plainElem_int Tryz.underlying3 (by simp [Lit.wf, IntKind.min, IntKind.max, IntKind.bits, IntKind.signed]; omega)) ?_; intro w3 hown3 hgrow3)
          have B3 : Below w.heap.size wr w3 := (((Below.refl _ wr).alloc (by omega) _)).grown hgrow3 (by simp; omega) (fun j ej => by cases ej; omega)
          have HO3 : Hid (∃ (D : DataW Unit), w3.ownsMap Tryz.prog 32 (plainElem Tryz.prog 3) w.heap.size (N + (i + 1)) D ∧ KeysAre D (ids (P ++ l.take (i + 1)))) := ⟨_, hown3, HD2.out⟩
          have B4 := hb2.trans B3
          clear hown3 hgrow3 hown hown0 HD2
          go_wp2
          go_roundw
          case rel => exact ⟨i + 1, by go_num, by omega, B4, HO3⟩
          case measure => simp [intOf]; omega
        · obtain rfl : i = l.length := by omega
          go_wp2
          go_roundw
          case rel =>
            refine ⟨j + 1, by go_num, by omega, ?_, HB.out.trans hb2, ?_⟩
            · rw [ET.out, List.length_append, hNN]; go_num
            · rw [ET.out, List.length_append, hNN]
              rw [List.take_length] at HO2
              exact HO2
          case measure => simp [intOf]; omega
    · obtain rfl : j = LS.length := by omega
      rw [List.take_length] at HO ⊢
      obtain ⟨D, hown, hD⟩ := HO.out
      have hsize := hD.size
      rw [show ((ids (allP LS)).length : Int) = ((allP LS).length : Int) by simp [ids]] at hsize
      have HS := Lib.hid hsize
      clear hsize hD HO
      go_wp2_with (at_len; refine wpList_len_own _ rfl _ 66 rfl 32 3 Tryz.underlying66 _ w.heap.size _ _ rfl hown ?_)
      go_ret
      exact ⟨by rw [HS.out]; rfl, hb⟩

end Go.Proofs.YthplgcakhniidaaGreat

/- stair.Right: is it a stair? -/
namespace Go.Proofs.YthplgcakhniidaaGreat
open Go.RowKit Go.Maps

def rightF (l : List Pt) : Bool := chainOK l && unl l

theorem chain_no {l : List Pt} {m : Nat} (h : m + 1 < l.length) (hn : ¬ stR l[m] l[m + 1]) : rightF l = false := by
  unfold rightF
  rw [Bool.and_eq_false_iff]
  left
  cases h2 : chainOK l
  · rfl
  · exact absurd ((chainOK_iff l).1 h2 m h) hn

/-- one list, as the variable arguments -/
theorem lsts_one {W : World} {a : Option Addr} {l : List Pt} (c : Nat) (t : TypeId) (h : RdK ePt 3 W a l) : Lsts (W.alloc (.cells #[.slice a l.length c] t)) W.heap.size [(a, l, c)] := by
  intro j hj
  obtain rfl : j = 0 := by simpa using hj
  exact ⟨by rw [World.cell?_alloc_at _ _ _ _ rfl]; rfl, h.below ((Below.refl _ _).alloc (Nat.le_refl _) _)⟩
theorem allP_one (a : Option Addr) (l : List Pt) (c : Nat) : allP [(a, l, c)] = l := by simp [allP]

set_option maxRecDepth 100000 in
set_option maxHeartbeats 2000000 in
theorem right_calls (a : Option Addr) (l : List Pt) (n c : Nat) (w : World) (hn : l.length = n) (h : RdK ePt 3 w a l) (hl : n ≤ 1000000) (hw : wfI l) :
    Calls Tryz.prog 77 #[.slice a n c] w fun e w' => e = .returned (.bool (rightF l)) ∧ Below w.heap.size w w' := by
  subst hn
  have HR := Lib.hid h
  have HW := Lib.hid hw
  clear h hw
  go_enter Tryz.func77, Tryz.ntmps77
  go_wp2
  go_loopw [3] (fun iv wr => ∃ m : Nat, iv = .int .i64 ((m : Int) + 1) ∧ m ≤ l.length ∧ Below w.heap.size w wr ∧ Hid (∀ i (_ : i + 1 < l.length), i < m → stR l[i] l[i + 1])) (fun iv _ => l.length + 1 - (intOf iv).toNat)
  case atStart => exact ⟨0, rfl, Nat.zero_le _, Below.refl _ _, fun i _ h => absurd h (Nat.not_lt_zero _)⟩
  case round =>
    obtain ⟨m, rfl, hm, hb, INV⟩ := hrel
    by_cases hlt : m + 1 < l.length
    · obtain ⟨b, off, ea, hbl, hcs⟩ := (HR.out.below hb).get (by omega)
      have x0 := hcs m (by omega) 0 (by omega)
      have x1 := hcs m (by omega) 1 (by omega)
      have x2 := hcs m (by omega) 2 (by omega)
      have y0 := hcs (m + 1) hlt 0 (by omega)
      have y1 := hcs (m + 1) hlt 1 (by omega)
      have y2 := hcs (m + 1) hlt 2 (by omega)
      simp only [ePt, List.getElem?_cons_zero, List.getElem?_cons_succ, Nat.add_zero] at x0 x1 x2 y0 y1 y2
      have hS := hb.size
      have BAD0 : ¬ stR l[m] l[m + 1] → rightF l = false := chain_no hlt
      have GOOD0 : stR l[m] l[m + 1] → Hid (∀ i (_ : i + 1 < l.length), i < m + 1 → stR l[i] l[i + 1]) := fun hst i hi him => by
        rcases Nat.lt_succ_iff_lt_or_eq.1 him with h | rfl
        · exact INV.out i hi h
        · exact hst
      have EA := Lib.hid ea
      clear hcs ea
      generalize hp : l[m]'(by omega) = p at *
      generalize hq : l[m + 1] = q at *
      clear hp hq
      obtain ⟨px, py, pi⟩ := p
      obtain ⟨qx, qy, qi⟩ := q
      unfold stR at BAD0 GOOD0
      simp only at BAD0 GOOD0 x0 x1 x2 y0 y1 y2
      obtain rfl := EA.out
      clear EA
      have hbw : b < wr.heap.size := by omega
      have hlt3 : (m : Int) + 1 < (l.length : Int) := by omega
      have hlt4 : (m : Int) < (l.length : Int) := by omega
      have BB : ∀ o1 o2, Below w.heap.size w (((wr.alloc o1).alloc o2).drew) := fun _ _ => (((hb.alloc hS _).alloc (by simp; omega) _).drew)
      by_cases hx : px = qx
      · have d1 : (px == qx) = true := by simp [hx]
        by_cases hy : py = qy
        · have d2 : (py == qy) = true := by simp [hy]
          by_cases hi : pi < qi
          · have d3 : decide (qi ≤ pi) = false := by simp; omega
            have GOOD := GOOD0 (.inl ⟨hx, hy, hi⟩)
            have i3 : ¬ qi ≤ pi := by omega
            clear hx hy BAD0 GOOD0 INV
            go_wp2
            go_region
            all_goals
              go_wp2
              go_roundw
              case rel => exact ⟨m + 1, by go_num, by omega, BB _ _, GOOD⟩
              case measure => simp [intOf]; omega
          · have d3 : decide (qi ≤ pi) = true := by simp; omega
            have i3 : qi ≤ pi := by omega
            have BAD := Lib.hid (BAD0 (by omega))
            clear hx hy hi BAD0 GOOD0 INV
            go_wp2
            go_region
            all_goals
              go_wp2
              go_ret
              exact ⟨by rw [BAD.out]; rfl, BB _ _⟩
        · have d2 : (py == qy) = false := by simp [hy]
          have d4 : decide (qx ≤ px) = true := by simp [hx]
          have i4 : qx ≤ px := by omega
          have BAD := Lib.hid (BAD0 (by omega))
          clear hx hy BAD0 GOOD0 INV
          go_wp2
          go_region
          all_goals
            go_wp2
            go_ret
            exact ⟨by rw [BAD.out]; rfl, BB _ _⟩
      · have d1 : (px == qx) = false := by simp [hx]
        by_cases hgx : qx ≤ px
        · have d4 : decide (qx ≤ px) = true := by simp [hgx]
          have BAD := Lib.hid (BAD0 (by omega))
          clear hx BAD0 GOOD0 INV
          go_wp2
          go_region
          all_goals
            go_wp2
            go_ret
            exact ⟨by rw [BAD.out]; rfl, BB _ _⟩
        · have d4 : decide (qx ≤ px) = false := by simp; omega
          by_cases hly : py ≤ qy
          · have d5 : decide (py ≤ qy) = true := by simp [hly]
            have BAD := Lib.hid (BAD0 (by omega))
            clear hx BAD0 GOOD0 INV
            go_wp2
            go_region
            all_goals
              go_wp2
              go_ret
              exact ⟨by rw [BAD.out]; rfl, BB _ _⟩
          · have d5 : decide (py ≤ qy) = false := by simp; omega
            have GOOD := GOOD0 (by omega)
            clear hx BAD0 GOOD0 INV
            go_wp2
            go_region
            all_goals
              go_wp2
              go_roundw
              case rel => exact ⟨m + 1, by go_num, by omega, BB _ _, GOOD⟩
              case measure => simp [intOf]; omega
    · have hch : chainOK l = true := (chainOK_iff l).2 fun i hi => INV.out i hi (by omega)
      have hf : rightF l = unl l := by unfold rightF; rw [hch, Bool.true_and]
      have HF := Lib.hid hf
      have hr := HR.out.below hb
      have hS := hb.size
      clear HR INV hch hf
      go_wp2_with fail
      refine (unlike_calls wr.heap.size 1 [(a, l, c)] _ (by simp) (lsts_one c 22 hr) (by rw [allP_one]; exact hl) (by simp) (by rw [allP_one]; exact HW.out)).mono ?_
      rw [allP_one]
      rintro e w1 ⟨rfl, hb1⟩
      go_wp2
      go_ret
      exact ⟨by rw [HF.out]; rfl, (hb.alloc hS _).trans (hb1.mono (by simp; omega))⟩

end Go.Proofs.YthplgcakhniidaaGreat

/- slices.Backward of points, as an iterator. -/
namespace Go.Proofs.YthplgcakhniidaaGreat
open Go.RowKit Go.Shelf

attribute [local go_sem] Oper.semAt_some

/-- what lay below n₀ stands, and so does block Bs -/
def Kp2 (n₀ Bs : Nat) (W W' : World) : Prop := Below n₀ W W' ∧ W'.heap[Bs]? = W.heap[Bs]?
theorem Kp2.refl (n₀ Bs : Nat) (W : World) : Kp2 n₀ Bs W W := ⟨Below.refl _ _, rfl⟩
theorem Kp2.trans {n₀ Bs : Nat} {A B C : World} (h : Kp2 n₀ Bs A B) (h2 : Kp2 n₀ Bs B C) : Kp2 n₀ Bs A C := ⟨h.1.trans h2.1, h2.2.trans h.2⟩

/-- the first k that come, from the last one on -/
def bk (zs : List Pt) (k : Nat) : List (Nat × Pt) := (List.range k).map fun j => (zs.length - 1 - j, zs.getD (zs.length - 1 - j) (0, 0, 0))
theorem bk_len (zs : List Pt) (k : Nat) : (bk zs k).length = k := by simp [bk]
theorem bk_succ (zs : List Pt) (k : Nat) : bk zs (k + 1) = bk zs k ++ [(zs.length - 1 - k, zs.getD (zs.length - 1 - k) (0, 0, 0))] := by simp [bk, List.range_succ]
/-- the points that have come, in the slice's own order -/
theorem bk_rev (zs : List Pt) : ∀ k, k ≤ zs.length → ((bk zs k).map (·.2)).reverse = zs.drop (zs.length - k)
  | 0, _ => by simp [bk]
  | k + 1, h => by
    rw [bk_succ, List.map_append, List.reverse_append, bk_rev zs k (by omega)]
    have e : zs.drop (zs.length - (k + 1)) = zs[zs.length - (k + 1)] :: zs.drop (zs.length - (k + 1) + 1) := List.drop_eq_getElem_cons (by omega)
    rw [e, show zs.length - (k + 1) + 1 = zs.length - k by omega]
    simp [show zs.length - 1 - k = zs.length - (k + 1) by omega, show zs.length - (k + 1) < zs.length by omega]

set_option maxRecDepth 100000 in
set_option maxHeartbeats 2000000 in
theorem back1_in (n : Nat) (hn : 1 ≤ n) (l Bs n₀ b off len cap : Nat) (zs : List Pt) (hz : zs.length = len) (hlen : len ≤ 1000000) (hb : b < n₀) (J Jx : List (Nat × Pt) → World → Prop)
    (hY : ∀ pre x W, J pre W → pre.length < len → YieldAt Fence.wide (n - 1) Tryz.prog l #[.int .i64 (x.1 : Int), vPt x.2.1 x.2.2.1 x.2.2.2] W fun e W' =>
      (e = .returned (.bool true) ∧ J (pre ++ [x]) W' ∧ Kp2 n₀ Bs W W') ∨ (e = .returned (.bool false) ∧ Jx (pre ++ [x]) W'))
    (W : World) (hBs : W.cell? ⟨Bs, 0, none⟩ = some (.slice (some ⟨b, off, none⟩) len cap)) (hc : RdK ePt 3 W (some ⟨b, off, none⟩) zs) (h0 : J [] W) :
    CallsIn Fence.wide n Tryz.prog 111 #[.func (.yield l) #[] #[], .pointer (some ⟨Bs, 0, none⟩)] W fun e W' => (∃ v, e = .returned v) ∧
      ((∃ ys, ys = bk zs len ∧ J ys W') ∨ (∃ pre, (∃ k, k ≤ len ∧ pre = bk zs k) ∧ Jx pre W')) := by
  have HC := Lib.hid hc
  have HZ := Lib.hid hz
  clear hc hz
  refine callsIn_of_wp Tryz.func111 rfl trivial ?_ rfl
  simp only [Tryz.ntmps111, List.size_toArray, List.length_cons, List.length_nil, Nat.reduceAdd, Nat.reduceSub, Array.replicate_succ, Array.replicate_zero, List.push_toArray, List.append_toArray, List.nil_append, List.cons_append]
  gi_wp2
  gi_loopw [3] (fun i wr => ∃ m : Nat, m ≤ len ∧ i = .int .i64 ((m : Int) - 1) ∧ J (bk zs (len - m)) wr ∧ Kp2 n₀ Bs W wr)
    (fun i _ => (intOf i + 1).toNat)
  case atStart => exact ⟨len, Nat.le_refl _, rfl, by rw [Nat.sub_self]; exact h0, Kp2.refl _ _ _⟩
  case round =>
    obtain ⟨m, hm, rfl, hJs, hk⟩ := hrel
    have hbs := (World.cell?_of_block (w := W) (w' := wr) (a := ⟨Bs, 0, none⟩) hk.2).trans hBs
    cases m with
    | zero =>
      have g0 : ¬ ((0 : Int) ≤ ((0 : Nat) : Int) - 1) := by omega
      gi_wp2
      go_end0
      exact ⟨⟨_, rfl⟩, .inl (by simpa using hJs)⟩
    | succ m =>
      have hml : m < zs.length := by rw [HZ.out]; omega
      have hpos : 0 < len := by omega
      obtain ⟨b', off', eb, hbl, hcs⟩ := HC.out.get (by omega)
      have x0 := hcs m hml 0 (by omega)
      have x1 := hcs m hml 1 (by omega)
      have x2 := hcs m hml 2 (by omega)
      injection eb with eb
      injection eb with eb1 eb2 _
      subst eb1 eb2
      have y0 := (hk.1.cell (p := ⟨b, off + m * 3 + 0, none⟩) hb).trans x0
      have y1 := (hk.1.cell (p := ⟨b, off + m * 3 + 1, none⟩) hb).trans x1
      have y2 := (hk.1.cell (p := ⟨b, off + m * 3 + 2, none⟩) hb).trans x2
      simp only [ePt, List.getElem?_cons_zero, List.getElem?_cons_succ, Nat.add_zero] at y0 y1 y2
      have hst : bk zs (len - m) = bk zs (len - (m + 1)) ++ [(m, zs[m])] := by
        have := bk_succ zs (len - (m + 1))
        rw [show len - (m + 1) + 1 = len - m by omega] at this
        rw [this, show zs.length - 1 - (len - (m + 1)) = m by rw [HZ.out]; omega]
        simp [hml]
      obtain ⟨fn, tmps, assign, body, hy, hR⟩ := hY _ (m, zs[m]) wr hJs (by rw [bk_len]; omega)
      dsimp only at hy
      rw [← hst] at hR
      have HST := Lib.hid hst
      clear hcs x0 x1 x2 hst
      generalize zs[m] = p at *
      obtain ⟨px, py, pi⟩ := p
      simp only at y0 y1 y2 hy
      have e1 : ((m + 1 : Nat) : Int) - 1 = (m : Int) := by omega
      rw [e1]
      clear e1 hml
      gi_wp2
      refine hR.mono ?_
      rintro e W3 (⟨rfl, hJ3, hk3⟩ | ⟨rfl, hJx3⟩)
      · gi_wp2
        go_roundw
        case rel => exact ⟨m, by omega, by simp, hJ3, hk.trans hk3⟩
        case measure => simp [intOf]
      · gi_wp2
        refine bodyPost_ret (results_none rfl _ _ _) rfl ?_
        exact ⟨⟨_, rfl⟩, .inr ⟨_, ⟨len - m, by omega, rfl⟩, hJx3⟩⟩

set_option maxRecDepth 100000 in
set_option maxHeartbeats 1000000 in
theorem back1_nil_in (n : Nat) (l Bs : Nat) (a : Option Addr) (cap : Nat) (J : List (Nat × Pt) → World → Prop) (W : World) (hBs : W.cell? ⟨Bs, 0, none⟩ = some (.slice a 0 cap)) (h0 : J [] W) :
    CallsIn Fence.wide n Tryz.prog 111 #[.func (.yield l) #[] #[], .pointer (some ⟨Bs, 0, none⟩)] W fun e W' => (∃ v, e = .returned v) ∧ J [] W' := by
  refine callsIn_of_wp Tryz.func111 rfl trivial ?_ rfl
  simp only [Tryz.ntmps111, List.size_toArray, List.length_cons, List.length_nil, Nat.reduceAdd, Nat.reduceSub, Array.replicate_succ, Array.replicate_zero, List.push_toArray, List.append_toArray, List.nil_append, List.cons_append]
  gi_wp2
  gi_loopw [3] (fun i wr => i = .int .i64 (-1) ∧ J [] wr) (fun _ _ => 0)
  case atStart => exact ⟨rfl, h0⟩
  case round =>
    obtain ⟨rfl, hJs⟩ := hrel
    gi_wp2
    go_end0
    first | exact hJs | exact ⟨⟨_, rfl⟩, hJs⟩

theorem back_in (n : Nat) (a : Option Addr) (len cap : Nat) (w : World) :
    CallsIn Fence.wide n Tryz.prog 83 #[.slice a len cap] w fun e w' => e = .returned (.func (.func 111) #[] #[.pointer (some ⟨w.heap.size, 0, none⟩)]) ∧ w' = w.alloc (.cells #[.slice a len cap] 22) := by
  refine callsIn_of_wp Tryz.func83 rfl trivial ?_ rfl
  simp only [Tryz.ntmps83, List.size_toArray, List.length_cons, List.length_nil, Nat.reduceAdd, Nat.reduceSub, Array.replicate_succ, Array.replicate_zero, List.push_toArray, List.append_toArray, List.nil_append, List.cons_append]
  gi_wp2
  go_ret
  exact ⟨rfl, rfl⟩

theorem back_stops (n : Nat) (hn : 1 ≤ n) (Bs n₀ : Nat) (a : Option Addr) (len cap : Nat) (zs : List Pt) (hz : zs.length = len) (hlen : len ≤ 1000000) (w : World) (hBs : Bs < w.heap.size)
    (hc : w.cell? ⟨Bs, 0, none⟩ = some (.slice a len cap)) (hI : RdK ePt 3 w a zs) (hb : zs ≠ [] → ∀ b off, a = some ⟨b, off, none⟩ → b < n₀) :
    SeqStopsK Fence.wide n Tryz.prog 111 #[.pointer (some ⟨Bs, 0, none⟩)] (fun x : Nat × Pt => #[Value.int .i64 (x.1 : Int), vPt x.2.1 x.2.2.1 x.2.2.2]) (Kp2 n₀ Bs) (fun ys => ys = bk zs len)
      (fun pre => ∃ k, k ≤ len ∧ pre = bk zs k) len w := fun l J Jx W hW _ _ hY h0 => by
  have hc' := (hW.cell (p := ⟨Bs, 0, none⟩) hBs).trans hc
  have hI' := hI.below hW
  rcases hI' with rfl | ⟨b, off, rfl, hlt, hcs⟩
  · obtain rfl : len = 0 := by simpa using hz.symm
    exact (back1_nil_in n l Bs a cap J W hc' h0).mono fun e W' ⟨he, hj⟩ => ⟨he, .inl ⟨_, by simp [bk], hj⟩⟩
  · by_cases e : zs = []
    · subst e
      obtain rfl : len = 0 := by simpa using hz.symm
      exact (back1_nil_in n l Bs _ cap J W hc' h0).mono fun e W' ⟨he, hj⟩ => ⟨he, .inl ⟨_, by simp [bk], hj⟩⟩
    · exact back1_in n hn l Bs n₀ b off len cap zs hz hlen (hb e b off rfl) J Jx hY W hc' (.inr ⟨b, off, rfl, hlt, hcs⟩) h0

end Go.Proofs.YthplgcakhniidaaGreat

/- A quiet region inside a round of a range over a function. -/
namespace Go.Proofs.YthplgcakhniidaaGreat

/-- no defer statement among them -/
def noDefer (l : List Oper) : Bool := l.all fun o => match o.op with | .defer _ => false | _ => true
theorem noDefer_op {l : List Oper} (h : noDefer l = true) {o : Oper} (ho : o ∈ l) : ∀ c, o.op ≠ .defer c := fun c e => by
  have := List.all_eq_true.1 h o ho
  rw [e] at this
  cases this

section
variable {F : Fence} {n : Nat} {P : Program} {ops : Array Oper} {C : World → Prop} {md : Region.Mode}

theorem oper_of_quiet {o : Oper} (hd : ∀ c, o.op ≠ .defer c) {a : Act} {K : Act → Prop} {K' : Act → World → Prop} {Q' : Exit → Act → World → Prop} {w : World} (hw : C w) (h : ∀ a w', C w' → K a → K' a w')
    (ha : o.askedIn F P a C) (hh : o.quietIn F n P a C K) : o.wpIn F n P a w K' Q' := by
  obtain ⟨v, h1, h2⟩ := hh
  refine ⟨ha w hw, ?_⟩
  rw [Oper.semAt_plain F _ _ hd]
  have h3 : Oper.quietUponIn F n P C w v ((execOp a.eval o).run P w) := h1 w hw
  revert h3
  generalize (execOp a.eval o).run P w = r
  intro h3
  rcases r with ⟨x, w'⟩ | ⟨x, w'⟩
  · cases x with
    | value u => obtain ⟨e1, e2⟩ := h3; subst e1 e2; exact h _ _ hw h2
    | skip => obtain ⟨e1, e2⟩ := h3; subst e1 e2; exact h _ _ hw h2
    | enter f args => obtain ⟨e1, hn, hc⟩ := h3; subst e1; exact ⟨hn, hc.mono fun e w'' hq => by obtain ⟨he, hq⟩ := hq; subst he; exact h _ _ hq h2⟩
    | _ => exact h3.elim
  · exact h3.elim

theorem any_of_quiet (hd : ∀ o ∈ ops, ∀ c, o.op ≠ .defer c) {Q : Act → Prop} {Q' : Exit → Act → World → Prop} (hQ : ∀ a w, C w → Q a → Q' .normal a w) : ∀ (fuel : Nat) (listed : Array Bool) (a : Act) (w : World), C w →
    wpAnyQIn F n P md ops C Q fuel listed a → wpAnyIn F n P md ops Q' fuel listed a w
  | 0, _, _, _, hw, h => ⟨h.1, hQ _ _ hw h.2⟩
  | fuel + 1, listed, a, w, hw, h => by
    refine ⟨fun h0 => hQ _ _ hw (h.1 h0), fun i hi => ?_⟩
    have hq := h.2 i hi
    have next : ∀ (a' : Act) (w' : World), C w' → wpAnyQIn F n P md ops C Q fuel (listed.setIfInBounds i true) a' → wpAnyIn F n P md ops Q' fuel (listed.setIfInBounds i true) a' w' := fun a' w' hw' => any_of_quiet hd hQ fuel _ a' w' hw'
    unfold qOpIn at hq
    unfold wpOpIn
    split
    · rename_i e; rw [e] at hq; exact next _ _ hw hq
    · rename_i o e
      rw [e] at hq
      obtain ⟨ha, hq⟩ := hq
      split
      · rename_i hwt
        rw [if_pos hwt] at hq
        exact oper_of_quiet (hd o (Array.mem_of_getElem? e)) hw next ha hq
      · rename_i hwt
        rw [if_neg hwt] at hq
        exact ⟨ha w hw, next _ _ hw hq⟩

theorem region_quiet_rnd {id : Nat} {Q : Exit → Act → World → Prop} {a : Act} {w : World} {l : List Oper} (hm : P.follows .mixedOrders = true) (hB : Region.lexB .any l.toArray = true) (hd : noDefer l = true)
    (h : wpQuietIn F n P l.toArray (fun w' => ∃ n, w' = w.drewN n) (fun a' => ∀ w', (∃ n, w' = w.drewN n) → Q .normal a' w') l a) : (Code.region id l.toArray true).wpIn F n P Q a w := by
  obtain ⟨hB1, hB2⟩ := by simpa only [Region.lexB, Bool.and_eq_true] using hB
  refine wpIn_region_any hm (any_of_quiet (C := fun w' => ∃ n, w' = w.drewN n) (Q := fun a' => ∀ w', (∃ n, w' = w.drewN n) → Q .normal a' w') (fun o ho => noDefer_op hd (by simpa using ho)) (fun _ w' hw' h => h w' hw') _ _ _ _ ⟨1, rfl⟩ ?_)
  have := wpAnyQIn_lex (F := F) (n := n) (P := P) (md := .any) (C := fun w' => ∃ n, w' = w.drewN n) hB1 l 0 (Array.replicate l.toArray.size false) a (by simp) (by simpa using hB2) h
  simpa using this
end

end Go.Proofs.YthplgcakhniidaaGreat

/- stair.scan: the skyline of points in order. -/
namespace Go.Proofs.YthplgcakhniidaaGreat
open Go.RowKit Go.Shelf

attribute [local go_sem] Oper.semAt_some

/-- what is gathered, in the order in which it came: the skyline so far, from its other end -/
def scO (O : List Pt) (p : Pt) : List Pt := (stp p O.reverse).reverse
def scR (pre : List (Nat × Pt)) : List Pt := pre.foldl (fun O x => scO O x.2) []
theorem scR_snoc (pre : List (Nat × Pt)) (x : Nat × Pt) : scR (pre ++ [x]) = scO (scR pre) x.2 := by simp [scR]
theorem scR_from : ∀ (pre : List (Nat × Pt)) (O : List Pt), pre.foldl (fun O x => scO O x.2) O = (pre.foldl (fun T x => stp x.2 T) O.reverse).reverse
  | [], O => by simp
  | x :: pre, O => by
    rw [List.foldl_cons, List.foldl_cons, scR_from pre]
    simp [scO]
theorem scR_eq (pre : List (Nat × Pt)) : scR pre = (scanF (pre.map (·.2)).reverse).reverse := by
  unfold scR scanF
  rw [scR_from, List.foldr_reverse, List.foldl_map]
  rfl
theorem scR_bk (zs : List Pt) : scR (bk zs zs.length) = (scanF zs).reverse := by
  rw [scR_eq, bk_rev zs _ (Nat.le_refl _), Nat.sub_self, List.drop_zero]

theorem stp_len (p : Pt) (T : List Pt) : (stp p T).length ≤ T.length + 1 := by
  cases T with
  | nil => simp [stp]
  | cons t T =>
    simp only [stp]
    split
    · simp
    · split
      · have := (List.dropWhile_sublist (fun q : Pt => decide (q.1 = p.1)) (l := t :: T)).length_le
        simp at this ⊢; omega
      · simp
theorem scO_len (O : List Pt) (p : Pt) : (scO O p).length ≤ O.length + 1 := by
  unfold scO; have := stp_len p O.reverse; simpa using this
theorem scR_len : ∀ (pre : List (Nat × Pt)) (O : List Pt), (pre.foldl (fun O x => scO O x.2) O).length ≤ O.length + pre.length
  | [], O => by simp
  | x :: pre, O => by
    rw [List.foldl_cons]
    have h1 := scR_len pre (scO O x.2)
    have h2 := scO_len O x.2
    simp; omega
theorem scR_le (pre : List (Nat × Pt)) : (scR pre).length ≤ pre.length := by have := scR_len pre []; simpa [scR] using this

theorem scO_nil (p : Pt) : scO [] p = [p] := rfl
theorem scO_skip (O : List Pt) (t p : Pt) (h : p.2.1 < t.2.1 ∨ p.2.1 = t.2.1 ∧ p.1 < t.1) : scO (O ++ [t]) p = O ++ [t] := by
  unfold scO
  simp only [List.reverse_append, List.reverse_cons, List.reverse_nil, List.nil_append, List.singleton_append, stp, if_pos h]
  simp
theorem scO_plain (O : List Pt) (t p : Pt) (h : ¬ (p.2.1 < t.2.1 ∨ p.2.1 = t.2.1 ∧ p.1 < t.1)) (h2 : ¬ (p.1 = t.1 ∧ t.2.1 < p.2.1)) : scO (O ++ [t]) p = (O ++ [t]) ++ [p] := by
  unfold scO
  simp only [List.reverse_append, List.reverse_cons, List.reverse_nil, List.nil_append, List.singleton_append, stp, if_neg h, if_neg h2]
  simp
theorem scO_drop (O : List Pt) (t p : Pt) (m : Nat) (h : ¬ (p.2.1 < t.2.1 ∨ p.2.1 = t.2.1 ∧ p.1 < t.1)) (h2 : p.1 = t.1 ∧ t.2.1 < p.2.1) (hm : m ≤ (O ++ [t]).length) (h3 : ∀ q ∈ (O ++ [t]).drop m, q.1 = p.1) (h4 : m = 0 ∨ ∃ hk : m - 1 < (O ++ [t]).length, (O ++ [t])[m - 1].1 ≠ p.1) :
    scO (O ++ [t]) p = (O ++ [t]).take m ++ [p] := by
  have e : (O ++ [t]).reverse = t :: O.reverse := by simp
  unfold scO
  rw [e]
  simp only [stp, if_neg h, if_pos h2]
  rw [← e]
  generalize O ++ [t] = L at *
  have e2 : L.reverse = (L.drop m).reverse ++ (L.take m).reverse := by rw [← List.reverse_append, List.take_append_drop]
  rw [e2, List.dropWhile_append_of_pos (by simpa using h3)]
  have e3 : (L.take m).reverse.dropWhile (fun q => decide (q.1 = p.1)) = (L.take m).reverse := by
    rcases h4 with rfl | ⟨hk, h4⟩
    · simp
    · rcases Nat.eq_zero_or_pos m with rfl | hm0
      · simp
      · have e4 : L.take m = L.take (m - 1) ++ [L[m - 1]] := by
          have := List.take_succ_eq_append_getElem hk
          rw [show m - 1 + 1 = m by omega] at this
          exact this
        rw [e4, List.reverse_append, List.reverse_singleton, List.singleton_append, List.dropWhile_cons_of_neg (by simpa using h4)]
  rw [e3]
  simp

theorem blk_own {β : Type} (B : Nat) (t : TypeId) (cs : β → Array Value) : Own (fun s W => W.heap[B]? = some (.cells (cs s) t (0, 0))) := fun s X Y row hs hg hrow =>
  (hg.block B (Array.getElem?_eq_some_iff.1 hs).1 (fun e' => by obtain ⟨o, ho, hc⟩ := hrow B e'.symm; rw [hs] at ho; cases ho; cases hc)).trans hs

/-- the variable in block n₀ holds a slice of the call's own with these points -/
def OutIs (n₀ : Nat) (T : List Pt) (W : World) : Prop := ∃ v, Boxed W n₀ 22 v ∧ W.ownsRow n₀ 34 3 v T.length (T.flatMap ePt)
theorem outIs_own (n₀ : Nat) : Own (fun (pre : List (Nat × Pt)) W => OutIs n₀ (scR pre) W) := fun s X Y row hs hg hrow => by
  obtain ⟨v, h1, h2⟩ := hs
  obtain ⟨v', a, b, _⟩ := holdsRow_own n₀ n₀ 22 34 3 (fun pre => (scR pre).length) (fun pre => (scR pre).flatMap ePt) (fun _ _ => True) s X Y row ⟨v, h1, h2, trivial⟩ hg hrow
  exact ⟨v', a, b⟩
theorem OutIs.alloc {n₀ : Nat} {T : List Pt} {W : World} (h : OutIs n₀ T W) (o : Obj) : OutIs n₀ T (W.alloc o) := by
  obtain ⟨v, h1, h2⟩ := h
  exact ⟨v, h1.alloc _, h2.alloc _⟩

theorem heap_new_at {W : World} {o : Obj} {n : Nat} (h : n = W.heap.size) : (W.alloc o).heap[n]? = some o := by subst h; exact heap_alloc_new W o

theorem infoPt : (Tryz.prog.info? 34).map (fun i => (i.zero, i.size, i.bytes)) = some (some (.agg #[.int .i64 0, .int .i64 0, .int .u32 0]), 3, 24) := by kernel_rfl

theorem kp2_b {n₀ Bs : Nat} {w : World} (h : n₀ ≤ w.heap.size) (hB : Bs < w.heap.size) : ∀ (W : World) (l : Nat) (o o' : Obj), w.heap.size ≤ l → W.heap[l]? = some o → o.isCells = false → o.isWalk = false → Kp2 n₀ Bs W (W.putObj l o') := fun W l o o' hl ho hc hw =>
  ⟨belowK_b (w := w) h W l o o' hl ho hc hw, (grownBy_putObj' W l o').block Bs (by have := (Array.getElem?_eq_some_iff.1 ho).1; omega) (by intro e; cases e; omega)⟩

/-- the inner loop's world -/
def CJ (B Bx g cap : Nat) (O' : List Pt) (px py pi tx ty ti : Int) (a : Option Addr) (n c : Nat) (W wr : World) : Prop :=
  Boxed wr B 22 (.slice (some ⟨g, 0, none⟩) (O'.length + 1) cap) ∧ wr.ownsRow B 34 3 (.slice (some ⟨g, 0, none⟩) (O'.length + 1) cap) (O'.length + 1) ((O' ++ [(tx, ty, ti)]).flatMap ePt) ∧
  Boxed wr (B + 1) 22 (.slice a n c) ∧ wr.heap[Bx]? = some (.cells #[.int .i64 px, .int .i64 py, .int .u32 pi] 34 (0, 0)) ∧ Below B W wr ∧ KeepsOthers W wr

theorem CJ.drewAny {B Bx g cap : Nat} {O' : List Pt} {px py pi tx ty ti : Int} {a : Option Addr} {n c : Nat} {W wr : World} (h : CJ B Bx g cap O' px py pi tx ty ti a n c W wr) (q : Nat) : CJ B Bx g cap O' px py pi tx ty ti a n c W (wr.drewN q) :=
  ⟨h.1, h.2.1, h.2.2.1, h.2.2.2.1, h.2.2.2.2.1.trans (Below.drewAny _ _), ⟨h.2.2.2.2.2.1, h.2.2.2.2.2.2⟩⟩

set_option maxRecDepth 100000 in
set_option maxHeartbeats 8000000 in
theorem scanIn (N : Nat) (hN : 3 ≤ N) (a : Option Addr) (l : List Pt) (n c : Nat) (w : World) (hn : l.length = n) (h : RdK ePt 3 w a l) (hl : n ≤ 1000000) :
    CallsIn Fence.wide N Tryz.prog 49 #[.slice a n c] w fun e w' => ∃ v m, e = .returned v ∧ w'.ownsRow w.heap.size 34 3 v m ((scanF l).flatMap ePt) ∧ m = (scanF l).length ∧ Below w.heap.size w w' := by
  have h1 : 1 ≤ N := by omega
  obtain ⟨i0, hi, hz0, hz1, hz2⟩ := info_parts infoPt
  have hz3 : (Value.agg #[.int .i64 0, .int .i64 0, .int .u32 0]).cells.size = 3 := rfl
  obtain ⟨zp, hzp⟩ : ∃ z : Value, z = .agg #[.int .i64 0, .int .i64 0, .int .u32 0] := ⟨_, rfl⟩
  rw [← hzp] at hz0 hz3
  clear hzp
  refine callsIn_of_wp_marks Tryz.func49 rfl trivial ?_ rfl
  simp only [Tryz.ntmps49, List.size_toArray, List.length_cons, List.length_nil, Nat.reduceAdd, Nat.reduceSub, Array.replicate_succ, Array.replicate_zero, List.push_toArray, List.append_toArray, List.nil_append, List.cons_append]
  gi_wp2_with (refine ⟨trivial, ?_⟩; gi_at_call 83; refine (back_in (N - 1) _ _ _ _).mono ?_; rintro e w' ⟨rfl, rfl⟩)
  have bO := (Boxed.new w 22 (.slice none 0 0)).alloc (.cells #[.slice a n c] 22)
  have bN := Boxed.new (w.alloc (.cells #[.slice none 0 0] 22)) 22 (.slice a n c)
  rw [World.size_alloc] at bN
  have hB0 : Below w.heap.size w ((w.alloc (.cells #[.slice none 0 0] 22)).alloc (.cells #[.slice a n c] 22)) := ((Below.refl _ w).alloc (Nat.le_refl _) _).alloc (by simp) _
  have hsz : ((w.alloc (.cells #[.slice none 0 0] 22)).alloc (.cells #[.slice a n c] 22)).heap.size = w.heap.size + 2 := by simp
  obtain ⟨W0, hW0⟩ : ∃ W0, (w.alloc (.cells #[.slice none 0 0] 22)).alloc (.cells #[.slice a n c] 22) = W0 := ⟨_, rfl⟩
  rw [hW0] at bO bN hB0 hsz ⊢
  clear hW0
  refine wpIn_rangeFunc_ownH (F := Fence.wide) rfl h1 (gf := 111) (lb := #[.pointer (some ⟨w.heap.size + 1, 0, none⟩)]) rfl trivial (enters_of Tryz.func111 (by kernel_rfl) rfl)
    (back_stops (N - 1) (by omega) (w.heap.size + 1) w.heap.size a n c l hn hl W0 (by omega) bN.cell (h.below hB0) (fun hne b off e => by
      subst e
      rcases h with rfl | ⟨b', off', e, hlt, _⟩
      · exact absurd rfl hne
      · cases e; exact hlt)) Kp2.trans (kp2_b (by omega) (by omega)) (Below.refl _ _) (fun _ => rfl)
    (fun pre W => (OutIs w.heap.size (scR pre) W ∧ Boxed W (w.heap.size + 1) 22 (.slice a n c)) ∧ Below w.heap.size w W)
    (fun _ _ _ => False)
    (OwnFrom.and (OwnFrom.and (Own.from (outIs_own w.heap.size) _) (Own.from (boxed_own _ _ _) _)) (ownFrom_below (Nat.le_refl _) (by omega)))
    (fun _ _ _ _ _ hs _ _ => hs)
    ⟨⟨⟨_, bO, World.ownsRow_nil _ _ _ _⟩, bN⟩, hB0⟩
    (fun x a' W => ∃ Bx, w.heap.size + 1 < Bx ∧ W.heap[Bx]? = some (.cells #[.int .i64 x.2.1, .int .i64 x.2.2.1, .int .u32 x.2.2.2] 34 (0, 0)) ∧ a' = { tmps := #[.slice a n c, undef, .slice none 0 0, .pointer (some ⟨w.heap.size, 0, none⟩), undef, .pointer (some ⟨Bx, 0, none⟩), undef, undef, .slice a n c, .func (.func 111) #[] #[.pointer (some ⟨w.heap.size + 1, 0, none⟩)], .int .i64 (x.1 : Int), vPt x.2.1 x.2.2.1 x.2.2.2, undef, undef, undef, undef, undef, undef, undef, undef, undef, undef, undef, undef, undef, undef, undef, undef, undef, undef, undef, undef, undef, undef, undef, undef, undef, undef, undef, undef, undef, undef, undef, undef, undef, undef, undef, undef, undef, undef, undef, undef, undef, undef, undef, undef, undef, undef, undef, undef, undef, undef, undef, undef, undef, undef, undef, undef, undef, undef, undef, undef, undef, undef, undef, undef, undef, undef, undef], defers := [] })
    (fun x a' _ X Y row hs hg hr => by obtain ⟨Bx, h1, h2, h3⟩ := hs; exact ⟨Bx, h1, blk_own Bx 34 (fun (_ : Unit) => #[.int .i64 x.2.1, .int .i64 x.2.2.1, .int .u32 x.2.2.2]) () X Y row h2 hg (fun r e => (hr r e).2), h3⟩)
    ?assign ?body ?done ?stop
  case assign =>
    rintro lr pre x W K ⟨⟨hO, hN1⟩, hB1⟩ hK
    gi_wp2
    exact hK _ _ ((KeepsOthers.alloc _ _).from _) ⟨(Below.refl _ W).alloc hB1.size _, Below.heap_alloc W _ _ hN1.lt⟩ ⟨⟨hO.alloc _, hN1.alloc _⟩, hB1.alloc hB1.size _⟩ ⟨W.heap.size, hN1.lt, World.alloc_heap_new W _, rfl⟩
  case body =>
    rintro lr pre ⟨xi, px, py, pi⟩ a' W hlr ⟨r, hr⟩ ⟨⟨⟨v, hv, hrow⟩, hN1⟩, hB⟩ ⟨Bx, hBx, bX, rfl⟩ hlt
    have hOl := scR_le pre
    have hI : ∀ W', OutIs w.heap.size (scO (scR pre) (px, py, pi)) W' → OutIs w.heap.size (scR (pre ++ [(xi, px, py, pi)])) W' := fun W' h => by
      rw [scR_snoc]; exact h
    have HI := Lib.hid hI
    clear hI
    generalize hOO : scR pre = O at *
    clear hOO
    have hc := hv.cell
    have hfz := hv.frozen
    have hp0 : W.cell? ⟨Bx, 0, none⟩ = some (.int .i64 px) := by simp [World.cell?, bX]
    have hp1 : W.cell? ⟨Bx, 1, none⟩ = some (.int .i64 py) := by simp [World.cell?, bX]
    have hp2 : W.cell? ⟨Bx, 2, none⟩ = some (.int .u32 pi) := by simp [World.cell?, bX]
    have hlW := hN1.lt
    have hlW0 : w.heap.size < W.heap.size := by omega
    have hneW : w.heap.size ≠ W.heap.size := by omega
    have hBxW := (Array.getElem?_eq_some_iff.1 bX).1
    rcases List.eq_nil_or_concat O with rfl | ⟨O', t, rfl⟩
    · simp only [List.length_nil, List.flatMap_nil] at hrow
      have hrow0 := hrow
      rw [scO_nil] at HI
      have : v = .slice none 0 0 ∨ ∃ g cap, v = .slice (some ⟨g, 0, none⟩) 0 cap := by
        rcases hrow0.2 with ⟨rfl, _⟩ | ⟨g, cap, cur, rfl, _⟩
        · exact .inl rfl
        · exact .inr ⟨g, cap, rfl⟩
      rcases this with rfl | ⟨g0, cap0, rfl⟩
      all_goals
        gi_wp2_with (gi_at_builtin; refine wpListIn_append_own _ rfl _ _ 22 rfl w.heap.size 34 i0 zp 3 24 Tryz.underlying22 hi hz0 hz1 hz2 hz3 (by decide) _ _ _ rfl (hrow.alloc _) ⟨W.heap.size, 0, none⟩ 1 1 [.int .i64 px, .int .i64 py, .int .u32 pi] rfl rfl (World.news_of_block (cs := #[.int .i64 px, .int .i64 py, .int .u32 pi]) (t := 34) (fr := (0, 0)) (heap_new_at (by simp))) (by simp [Value.oneCell']) (by unfold maxLen; omega) (by omega) (by simp; omega) ?_; intro v' w1 hown' hgrow _; obtain ⟨g', cap', rfl⟩ := ownsRow_succ hown'; obtain ⟨hv1, hv2, hr2, hk2, hb2⟩ := hv.appended (by decide) hrow hB.size (Nat.le_refl _) hown' hgrow; have hc1 := hv1.cell; have hf1 := hv1.frozen; have hN2 := (hN1.alloc _).kept hgrow (hN1.not_row (by decide) hrow); have hN3 := fun u => hN2.other (B' := w.heap.size) (by omega) u)
        simp only [Nat.zero_add] at hv2 hr2 hk2 hb2
        exact ⟨hk2.from _, ⟨hb2, (hN3 _).trans hN1.symm⟩, ⟨HI.out _ ⟨_, hv2, hr2⟩, hN3 _⟩, hB.trans hb2⟩
    · rw [List.concat_eq_append] at *
      have hg : ∃ g cap, v = .slice (some ⟨g, 0, none⟩) (O'.length + 1) cap ∧ g < W.heap.size ∧ w.heap.size ≤ g := by
        rcases hrow.2 with ⟨_, h0⟩ | ⟨g, cap, cur, rfl, hg, hh, _⟩
        · simp at h0
        · exact ⟨g, cap, by simp, (Array.getElem?_eq_some_iff.1 hh).1, hg⟩
      obtain ⟨g, cap, rfl, hgW, hgn⟩ := hg
      obtain ⟨tx, ty, ti⟩ := t
      have hOl2 : O'.length + 1 ≤ pre.length := by simpa using hOl
      have hrow2 := hrow
      rw [show (O' ++ [(tx, ty, ti)]).length = O'.length + 1 by simp] at hrow2
      have q0 := hrow2.cellAt (O'.length * 3) (by omega)
      have q1 := hrow2.cellAt (O'.length * 3 + 1) (by omega)
      have q2 := hrow2.cellAt (O'.length * 3 + 2) (by omega)
      have fg := fun j hj => flat_get ePt_len (O' ++ [(tx, ty, ti)]) O'.length (by simp) j hj
      rw [show (O' ++ [(tx, ty, ti)])[O'.length]'(by simp) = (tx, ty, ti) by simp] at fg
      rw [show O'.length * 3 = O'.length * 3 + 0 by omega, fg 0 (by omega)] at q0
      rw [fg 1 (by omega)] at q1
      rw [fg 2 (by omega)] at q2
      simp only [ePt, List.getElem?_cons_zero, List.getElem?_cons_succ, Nat.add_zero] at q0 q1 q2
      clear fg
      have hrow := hrow2
      clear hrow2
      by_cases hsk : py < ty ∨ py = ty ∧ px < tx
      · have e1 := scO_skip O' (tx, ty, ti) (px, py, pi) hsk
        rw [e1] at HI
        rcases hsk with hsk | ⟨hsk1, hsk2⟩
        · have d1 : decide (py < ty) = true := by simp [hsk]
          gi_wp2
          exact ⟨(KeepsOthers.alloc _ _).from _, ⟨(Below.refl _ W).alloc hB.size _, Below.heap_alloc W _ _ hN1.lt⟩, ⟨HI.out _ ⟨_, hv.alloc _, by simpa using hrow.alloc _⟩, hN1.alloc _⟩, hB.alloc hB.size _⟩
        · have d1 : decide (py < ty) = false := by simp; omega
          have d2 : (py == ty) = true := by simp [hsk1]
          have d3 : decide (px < tx) = true := by simp [hsk2]
          clear hsk1
          gi_wp2
          exact ⟨(KeepsOthers.alloc _ _).from _, ⟨(Below.refl _ W).alloc hB.size _, Below.heap_alloc W _ _ hN1.lt⟩, ⟨HI.out _ ⟨_, hv.alloc _, by simpa using hrow.alloc _⟩, hN1.alloc _⟩, hB.alloc hB.size _⟩
      · by_cases hc3 : px = tx ∧ ty < py
        · have d1 : decide (py < ty) = false := by simp; omega
          have d2 : (py == ty) = false := by simp; omega
          have d4 : (px == tx) = true := by simp [hc3.1]
          have d5 : decide (ty < py) = true := by simp [hc3.2]
          have HD := Lib.hid (fun m h1 h2 h3 => scO_drop O' (tx, ty, ti) (px, py, pi) m hsk hc3 h1 h2 h3)
          have hdr0 : ∀ q ∈ (O' ++ [(tx, ty, ti)]).drop (O'.length + 1), q.1 = px := by rw [List.drop_of_length_le (by simp)]; simp
          have HDR := Lib.hid hdr0
          have hCJ : CJ w.heap.size Bx g cap O' px py pi tx ty ti a n c W (W.alloc (.cells #[.int .i64 tx, .int .i64 ty, .int .u32 ti] 34)) :=
            ⟨by simpa using hv.alloc (.cells #[.int .i64 tx, .int .i64 ty, .int .u32 ti] 34), hrow.alloc _, hN1.alloc _, (Below.heap_alloc W _ _ hBxW).trans bX, (Below.refl _ W).alloc hB.size _, KeepsOthers.alloc _ _⟩
          clear hc3 hsk hdr0
          gi_wp2
          gi_loopw [7] (fun nv wr => ∃ m : Nat, nv = .int .i64 m ∧ m ≤ O'.length + 1 ∧ Hid (∀ q ∈ (O' ++ [(tx, ty, ti)]).drop m, q.1 = px) ∧
              CJ w.heap.size Bx g cap O' px py pi tx ty ti a n c W wr) (fun nv _ => (intOf nv).toNat)
          case atStart => exact ⟨O'.length + 1, by go_num, Nat.le_refl _, HDR, hCJ⟩
          case round =>
            obtain ⟨m, rfl, hm, hdr, hcj⟩ := hrel
            have hcr := hcj.1.cell
            have hx0 : wr.cell? ⟨Bx, 0, none⟩ = some (.int .i64 px) := by simp [World.cell?, hcj.2.2.2.1]
            have EX : (m = 0 ∨ ∃ hk : m - 1 < (O' ++ [(tx, ty, ti)]).length, (O' ++ [(tx, ty, ti)])[m - 1].1 ≠ px) → scO (O' ++ [(tx, ty, ti)]) (px, py, pi) = (O' ++ [(tx, ty, ti)]).take m ++ [(px, py, pi)] := fun h => HD.out m (by simp; omega) hdr.out h
            rcases Nat.eq_zero_or_pos m with hm0 | hm0
            · have e1 := EX (.inl hm0)
              rw [e1] at HI
              clear EX e1 hdr
              subst hm0
              gi_wp2
              refine region_quiet_rnd (by kernel_rfl) (by kernel_rfl) (by kernel_rfl) ?_
              repeat (gi_big_quiet_step (fail))
              refine wpQuietIn_nil ?_
              intro _ hw'
              obtain ⟨nq, hw''⟩ := hw'
              subst hw''
              clear hcr hx0
              have hcj2 : CJ w.heap.size Bx g cap O' px py pi tx ty ti a n c W (wr.drewN nq) := hcj.drewAny nq
              clear hcj
              generalize wr.drewN nq = wr2 at hcj2 ⊢
              obtain ⟨hvr, hrr, hNr, hXr, hBr, hKr⟩ := hcj2
              have hcap : O'.length + 1 ≤ cap := by
                obtain ⟨_, _, eqv, _, _, hcap, _⟩ := ownRow_at hrr (by omega)
                injection eqv with _ _ eqc
                omega
              have hcr := hvr.cell
              have hfr := hvr.frozen
              have hne : w.heap.size ≠ Bx := by omega
              have hv4 := hvr.set (.slice (some ⟨g, 0, none⟩) 0 cap)
              have hrow4 : (wr2.setCell ⟨w.heap.size, 0, none⟩ (.slice (some ⟨g, 0, none⟩) 0 cap)).ownsRow w.heap.size 34 3 (.slice (some ⟨g, 0, none⟩) 0 cap) 0 (((O' ++ [(tx, ty, ti)]).take 0).flatMap ePt) := by
                refine owns_sameH (by rw [← flatMap_take ePt_len]; exact ownsRow_take hrr (by omega)) (fun gb e => heap_setNe (fun e2 => hvr.not_row (by decide) hrr ?_))
                simp only [Value.ownBlock] at e ⊢
                rw [e, ← e2]
              have hy0 : (wr2.setCell ⟨w.heap.size, 0, none⟩ (.slice (some ⟨g, 0, none⟩) 0 cap)).cell? ⟨Bx, 0, none⟩ = some (.int .i64 px) := by rw [World.cell?, heap_setNe hne]; simp [hXr]
              have hy1 : (wr2.setCell ⟨w.heap.size, 0, none⟩ (.slice (some ⟨g, 0, none⟩) 0 cap)).cell? ⟨Bx, 1, none⟩ = some (.int .i64 py) := by rw [World.cell?, heap_setNe hne]; simp [hXr]
              have hy2 : (wr2.setCell ⟨w.heap.size, 0, none⟩ (.slice (some ⟨g, 0, none⟩) 0 cap)).cell? ⟨Bx, 2, none⟩ = some (.int .u32 pi) := by rw [World.cell?, heap_setNe hne]; simp [hXr]
              have hN4 : ∀ u, Boxed (wr2.setCell ⟨w.heap.size, 0, none⟩ u) (w.heap.size + 1) 22 (.slice a n c) := fun u => hNr.other (B' := w.heap.size) (by omega) u
              have hlW4 := hNr.lt
              have hsz4 : w.heap.size ≤ (wr2.setCell ⟨w.heap.size, 0, none⟩ (.slice (some ⟨g, 0, none⟩) 0 cap)).heap.size := by have := hBr.size; have := hvr.lt; simp; omega
              gi_wp2_with (gi_at_builtin; refine wpListIn_append_own _ rfl _ _ 22 rfl w.heap.size 34 i0 zp 3 24 Tryz.underlying22 hi hz0 hz1 hz2 hz3 (by decide) _ _ _ rfl (hrow4.alloc _) ⟨wr2.heap.size, 0, none⟩ 1 1 [.int .i64 px, .int .i64 py, .int .u32 pi] rfl rfl (World.news_of_block (cs := #[.int .i64 px, .int .i64 py, .int .u32 pi]) (t := 34) (fr := (0, 0)) (heap_new_at (by simp))) (by simp [Value.oneCell']) (by unfold maxLen; omega) (by omega) (by simp; omega) ?_; intro v' w1 hown' hgrow _; obtain ⟨g', cap', rfl⟩ := ownsRow_succ hown'; obtain ⟨hv1, hv2, hr2, hk2, hb2⟩ := hv4.appended (by decide) hrow4 hsz4 (Nat.le_refl _) hown' hgrow; have hc1 := hv1.cell; have hf1 := hv1.frozen; have hN2 := ((hN4 _).alloc _).kept hgrow ((hN4 _).not_row (by decide) hrow4); have hN3 := fun u => hN2.other (B' := w.heap.size) (by omega) u)
              have hb3 := (hBr.setCell (p := ⟨w.heap.size, 0, none⟩) (Nat.le_refl _) (.slice (some ⟨g, 0, none⟩) 0 cap)).trans hb2
              exact ⟨((hKr.trans (KeepsOthers.setCell _ _ _)).trans hk2).from _, ⟨hb3, (hN3 _).trans hN1.symm⟩, ⟨HI.out _ ⟨_, hv2, by rw [show ((O' ++ [(tx, ty, ti)]).take 0 ++ [(px, py, pi)]).length = 0 + 1 by simp, List.flatMap_append, List.flatMap_singleton]; exact hr2⟩, hN3 _⟩, hB.trans hb3⟩
            · obtain ⟨k, rfl⟩ : ∃ k, m = k + 1 := ⟨m - 1, by omega⟩
              have c0 := hcj.2.1.cellAt (k * 3) (by omega)
              have fg := flat_get ePt_len (O' ++ [(tx, ty, ti)]) k (by simp; omega) 0 (by omega)
              rw [show k * 3 = k * 3 + 0 by omega, fg] at c0
              simp only [ePt, List.getElem?_cons_zero, Nat.add_zero] at c0
              clear fg
              have hkl : k < (O' ++ [(tx, ty, ti)]).length := by simp; omega
              simp only [Nat.add_sub_cancel] at EX
              have EX2 := Lib.hid EX
              have hdk := drop_pred (O' ++ [(tx, ty, ti)]) (k + 1) (by omega) (by omega)
              simp only [Nat.add_sub_cancel] at hdk
              clear EX
              obtain ⟨qx, hqx⟩ : ∃ qx, qx = (O' ++ [(tx, ty, ti)])[k].1 := ⟨_, rfl⟩
              rw [← hqx] at c0
              have g1 : (decide ((0 : Int) < ((k + 1 : Nat) : Int))) = true := by simp
              by_cases hq : qx = px
              · have g2 : (qx == px) = true := by simp [hq]
                have hdr2 : ∀ q ∈ (O' ++ [(tx, ty, ti)]).drop k, q.1 = px := by
                  rw [hdk]
                  intro q h
                  rcases List.mem_cons.1 h with rfl | h
                  · rw [← hqx]; exact hq
                  · exact hdr.out q h
                have HDR2 := Lib.hid hdr2
                clear hdr2 hdk hqx hq hdr
                gi_wp2
                refine region_quiet_rnd (by kernel_rfl) (by kernel_rfl) (by kernel_rfl) ?_
                repeat (gi_big_quiet_step (fail))
                refine wpQuietIn_nil ?_
                intro _ hw'
                obtain ⟨nq, hw''⟩ := hw'
                subst hw''
                gi_wp2
                go_roundw
                case rel => exact ⟨k, by go_num, by omega, HDR2, hcj.drewAny nq⟩
                case measure => simp [intOf]
              · have g2 : (qx == px) = false := by simp [hq]
                have e1 := EX2.out (.inr ⟨hkl, by rw [← hqx]; exact hq⟩)
                rw [e1] at HI
                clear hdk hqx hq EX2 e1 hdr
                gi_wp2
                refine region_quiet_rnd (by kernel_rfl) (by kernel_rfl) (by kernel_rfl) ?_
                repeat (gi_big_quiet_step (fail))
                refine wpQuietIn_nil ?_
                intro _ hw'
                obtain ⟨nq, hw''⟩ := hw'
                subst hw''
                clear c0
                clear hcr hx0
                have hcj2 : CJ w.heap.size Bx g cap O' px py pi tx ty ti a n c W (wr.drewN nq) := hcj.drewAny nq
                clear hcj
                generalize wr.drewN nq = wr2 at hcj2 ⊢
                obtain ⟨hvr, hrr, hNr, hXr, hBr, hKr⟩ := hcj2
                have hcap : O'.length + 1 ≤ cap := by
                  obtain ⟨_, _, eqv, _, _, hcap, _⟩ := ownRow_at hrr (by omega)
                  injection eqv with _ _ eqc
                  omega
                have hcr := hvr.cell
                have hfr := hvr.frozen
                have hne : w.heap.size ≠ Bx := by omega
                have hv4 := hvr.set (.slice (some ⟨g, 0, none⟩) (k + 1) cap)
                have hrow4 : (wr2.setCell ⟨w.heap.size, 0, none⟩ (.slice (some ⟨g, 0, none⟩) (k + 1) cap)).ownsRow w.heap.size 34 3 (.slice (some ⟨g, 0, none⟩) (k + 1) cap) (k + 1) (((O' ++ [(tx, ty, ti)]).take (k + 1)).flatMap ePt) := by
                  refine owns_sameH (by rw [← flatMap_take ePt_len]; exact ownsRow_take hrr (by omega)) (fun gb e => heap_setNe (fun e2 => hvr.not_row (by decide) hrr ?_))
                  simp only [Value.ownBlock] at e ⊢
                  rw [e, ← e2]
                have hy0 : (wr2.setCell ⟨w.heap.size, 0, none⟩ (.slice (some ⟨g, 0, none⟩) (k + 1) cap)).cell? ⟨Bx, 0, none⟩ = some (.int .i64 px) := by rw [World.cell?, heap_setNe hne]; simp [hXr]
                have hy1 : (wr2.setCell ⟨w.heap.size, 0, none⟩ (.slice (some ⟨g, 0, none⟩) (k + 1) cap)).cell? ⟨Bx, 1, none⟩ = some (.int .i64 py) := by rw [World.cell?, heap_setNe hne]; simp [hXr]
                have hy2 : (wr2.setCell ⟨w.heap.size, 0, none⟩ (.slice (some ⟨g, 0, none⟩) (k + 1) cap)).cell? ⟨Bx, 2, none⟩ = some (.int .u32 pi) := by rw [World.cell?, heap_setNe hne]; simp [hXr]
                have hN4 : ∀ u, Boxed (wr2.setCell ⟨w.heap.size, 0, none⟩ u) (w.heap.size + 1) 22 (.slice a n c) := fun u => hNr.other (B' := w.heap.size) (by omega) u
                have hlW4 := hNr.lt
                have hsz4 : w.heap.size ≤ (wr2.setCell ⟨w.heap.size, 0, none⟩ (.slice (some ⟨g, 0, none⟩) (k + 1) cap)).heap.size := by have := hBr.size; have := hvr.lt; simp; omega
                gi_wp2_with (gi_at_builtin; refine wpListIn_append_own _ rfl _ _ 22 rfl w.heap.size 34 i0 zp 3 24 Tryz.underlying22 hi hz0 hz1 hz2 hz3 (by decide) _ _ _ rfl (hrow4.alloc _) ⟨wr2.heap.size, 0, none⟩ 1 1 [.int .i64 px, .int .i64 py, .int .u32 pi] rfl rfl (World.news_of_block (cs := #[.int .i64 px, .int .i64 py, .int .u32 pi]) (t := 34) (fr := (0, 0)) (heap_new_at (by simp))) (by simp [Value.oneCell']) (by unfold maxLen; omega) (by omega) (by simp; omega) ?_; intro v' w1 hown' hgrow _; obtain ⟨g', cap', rfl⟩ := ownsRow_succ hown'; obtain ⟨hv1, hv2, hr2, hk2, hb2⟩ := hv4.appended (by decide) hrow4 hsz4 (Nat.le_refl _) hown' hgrow; have hc1 := hv1.cell; have hf1 := hv1.frozen; have hN2 := ((hN4 _).alloc _).kept hgrow ((hN4 _).not_row (by decide) hrow4); have hN3 := fun u => hN2.other (B' := w.heap.size) (by omega) u)
                have hb3 := (hBr.setCell (p := ⟨w.heap.size, 0, none⟩) (Nat.le_refl _) (.slice (some ⟨g, 0, none⟩) (k + 1) cap)).trans hb2
                exact ⟨((hKr.trans (KeepsOthers.setCell _ _ _)).trans hk2).from _, ⟨hb3, (hN3 _).trans hN1.symm⟩, ⟨HI.out _ ⟨_, hv2, by rw [show ((O' ++ [(tx, ty, ti)]).take (k + 1) ++ [(px, py, pi)]).length = (k + 1) + 1 by simp; omega, List.flatMap_append, List.flatMap_singleton]; exact hr2⟩, hN3 _⟩, hB.trans hb3⟩
        · have e1 := scO_plain O' (tx, ty, ti) (px, py, pi) hsk hc3
          rw [e1] at HI
          have d1 : decide (py < ty) = false := by simp; omega
          by_cases h5 : py = ty
          · have d2 : (py == ty) = true := by simp [h5]
            have d3 : decide (px < tx) = false := by simp; omega
            have d5 : decide (ty < py) = false := by simp; omega
            by_cases h6 : px = tx
            · have d4 : (px == tx) = true := by simp [h6]
              clear h5 h6 hsk hc3
              gi_wp2_with (gi_at_builtin; refine wpListIn_append_own _ rfl _ _ 22 rfl w.heap.size 34 i0 zp 3 24 Tryz.underlying22 hi hz0 hz1 hz2 hz3 (by decide) _ _ _ rfl ((hrow.alloc _).alloc _) ⟨W.heap.size + 1, 0, none⟩ 1 1 [.int .i64 px, .int .i64 py, .int .u32 pi] rfl rfl (World.news_of_block (cs := #[.int .i64 px, .int .i64 py, .int .u32 pi]) (t := 34) (fr := (0, 0)) (heap_new_at (by simp))) (by simp [Value.oneCell']) (by unfold maxLen; omega) (by omega) (by simp; omega) ?_; intro v' w1 hown' hgrow _; obtain ⟨g', cap', rfl⟩ := ownsRow_succ hown'; obtain ⟨hv1, hv2, hr2, hk2, hb2⟩ := (hv.alloc (.cells #[.int .i64 tx, .int .i64 ty, .int .u32 ti] 34)).appended (by decide) (hrow.alloc _) (hB.alloc hB.size _).size (Nat.le_refl _) hown' hgrow; have hc1 := hv1.cell; have hf1 := hv1.frozen; have hN2 := ((hN1.alloc (.cells #[.int .i64 tx, .int .i64 ty, .int .u32 ti] 34)).alloc _).kept hgrow ((hN1.alloc (.cells #[.int .i64 tx, .int .i64 ty, .int .u32 ti] 34)).not_row (by decide) (hrow.alloc _)); have hN3 := fun u => hN2.other (B' := w.heap.size) (by omega) u)
              have hb3 := ((Below.refl w.heap.size W).alloc hB.size _).trans hb2
              exact ⟨((KeepsOthers.alloc _ _).trans hk2).from _, ⟨hb3, (hN3 _).trans hN1.symm⟩, ⟨HI.out _ ⟨_, hv2, by rw [show ((O' ++ [(tx, ty, ti)]) ++ [(px, py, pi)]).length = O'.length + 1 + 1 by simp, List.flatMap_append, List.flatMap_singleton]; exact hr2⟩, hN3 _⟩, hB.trans hb3⟩
            · have d4 : (px == tx) = false := by simp [h6]
              clear h5 h6 hsk hc3
              gi_wp2_with (gi_at_builtin; refine wpListIn_append_own _ rfl _ _ 22 rfl w.heap.size 34 i0 zp 3 24 Tryz.underlying22 hi hz0 hz1 hz2 hz3 (by decide) _ _ _ rfl ((hrow.alloc _).alloc _) ⟨W.heap.size + 1, 0, none⟩ 1 1 [.int .i64 px, .int .i64 py, .int .u32 pi] rfl rfl (World.news_of_block (cs := #[.int .i64 px, .int .i64 py, .int .u32 pi]) (t := 34) (fr := (0, 0)) (heap_new_at (by simp))) (by simp [Value.oneCell']) (by unfold maxLen; omega) (by omega) (by simp; omega) ?_; intro v' w1 hown' hgrow _; obtain ⟨g', cap', rfl⟩ := ownsRow_succ hown'; obtain ⟨hv1, hv2, hr2, hk2, hb2⟩ := (hv.alloc (.cells #[.int .i64 tx, .int .i64 ty, .int .u32 ti] 34)).appended (by decide) (hrow.alloc _) (hB.alloc hB.size _).size (Nat.le_refl _) hown' hgrow; have hc1 := hv1.cell; have hf1 := hv1.frozen; have hN2 := ((hN1.alloc (.cells #[.int .i64 tx, .int .i64 ty, .int .u32 ti] 34)).alloc _).kept hgrow ((hN1.alloc (.cells #[.int .i64 tx, .int .i64 ty, .int .u32 ti] 34)).not_row (by decide) (hrow.alloc _)); have hN3 := fun u => hN2.other (B' := w.heap.size) (by omega) u)
              have hb3 := ((Below.refl w.heap.size W).alloc hB.size _).trans hb2
              exact ⟨((KeepsOthers.alloc _ _).trans hk2).from _, ⟨hb3, (hN3 _).trans hN1.symm⟩, ⟨HI.out _ ⟨_, hv2, by rw [show ((O' ++ [(tx, ty, ti)]) ++ [(px, py, pi)]).length = O'.length + 1 + 1 by simp, List.flatMap_append, List.flatMap_singleton]; exact hr2⟩, hN3 _⟩, hB.trans hb3⟩
          · have d2 : (py == ty) = false := by simp [h5]
            have d4 : (px == tx) = false := by simp; omega
            clear h5 hsk hc3
            gi_wp2_with (gi_at_builtin; refine wpListIn_append_own _ rfl _ _ 22 rfl w.heap.size 34 i0 zp 3 24 Tryz.underlying22 hi hz0 hz1 hz2 hz3 (by decide) _ _ _ rfl ((hrow.alloc _).alloc _) ⟨W.heap.size + 1, 0, none⟩ 1 1 [.int .i64 px, .int .i64 py, .int .u32 pi] rfl rfl (World.news_of_block (cs := #[.int .i64 px, .int .i64 py, .int .u32 pi]) (t := 34) (fr := (0, 0)) (heap_new_at (by simp))) (by simp [Value.oneCell']) (by unfold maxLen; omega) (by omega) (by simp; omega) ?_; intro v' w1 hown' hgrow _; obtain ⟨g', cap', rfl⟩ := ownsRow_succ hown'; obtain ⟨hv1, hv2, hr2, hk2, hb2⟩ := (hv.alloc (.cells #[.int .i64 tx, .int .i64 ty, .int .u32 ti] 34)).appended (by decide) (hrow.alloc _) (hB.alloc hB.size _).size (Nat.le_refl _) hown' hgrow; have hc1 := hv1.cell; have hf1 := hv1.frozen; have hN2 := ((hN1.alloc (.cells #[.int .i64 tx, .int .i64 ty, .int .u32 ti] 34)).alloc _).kept hgrow ((hN1.alloc (.cells #[.int .i64 tx, .int .i64 ty, .int .u32 ti] 34)).not_row (by decide) (hrow.alloc _)); have hN3 := fun u => hN2.other (B' := w.heap.size) (by omega) u)
            have hb3 := ((Below.refl w.heap.size W).alloc hB.size _).trans hb2
            exact ⟨((KeepsOthers.alloc _ _).trans hk2).from _, ⟨hb3, (hN3 _).trans hN1.symm⟩, ⟨HI.out _ ⟨_, hv2, by rw [show ((O' ++ [(tx, ty, ti)]) ++ [(px, py, pi)]).length = O'.length + 1 + 1 by simp, List.flatMap_append, List.flatMap_singleton]; exact hr2⟩, hN3 _⟩, hB.trans hb3⟩
  case done =>
    rintro D xs W hD rfl ⟨⟨⟨v, hv, hrow⟩, hN1⟩, hB⟩ hK
    subst hn
    have hle := scR_le (bk l l.length)
    rw [bk_len] at hle
    rw [scR_bk] at hrow hle
    simp only [List.length_reverse] at hrow hle
    have hc := hv.cell
    have hnr := hv.not_row (by decide) hrow
    have hgb : ∀ j, v.ownBlock = some j → w.heap.size ≤ j := fun j e => by
      rcases hrow.2 with ⟨rfl, _⟩ | ⟨g, cap, cur, rfl, hb, _⟩
      · cases e
      · cases e; exact hb
    have hDn : some D ≠ v.ownBlock := fun e => by
      rcases hrow.2 with ⟨rfl, _⟩ | ⟨g, cap, cur, rfl, _, hb, _⟩
      · cases e
      · cases e; rw [hb] at hK; cases hK
    have hDl := (Array.getElem?_eq_some_iff.1 hK).1
    gi_wp2_with (refine ⟨trivial, ?_⟩; gi_at_call 84; refine (callsIn_wide.2 (revPts (by simp) (by omega) hrow)).mono ?_; rintro e w' ⟨rfl, hrow', hg⟩; have hv' := hv.kept hg hnr; have hc' := hv'.cell; have hK' := (hg.block D hDl hDn).trans hK; have hB' := hB.grown hg hB.size hgb)
    rw [List.reverse_reverse] at hrow'
    refine ⟨by simp, .inl ⟨_, _, rfl, run_takeDeferred hK', ?_⟩⟩
    exact ⟨_, results_tmp rfl _ _ _, _, _, rfl, ownsRow_putObj hrow' _ hK' rfl, rfl, hB'.trans (belowK_b (w := w) (Nat.le_refl _) _ _ _ _ (by omega) hK' rfl rfl)⟩
  case stop =>
    rintro D c pre W _ _ h _
    exact h.elim

/-- stair.scan: the skyline of points in order, in memory of its own -/
theorem scan_calls {a : Option Addr} {l : List Pt} {n c : Nat} {w : World} (hn : l.length = n) (h : RdK ePt 3 w a l) (hl : n ≤ 1000000) :
    Calls Tryz.prog 49 #[.slice a n c] w fun e w' => ∃ v, e = .returned v ∧ w'.ownsRow w.heap.size 34 3 v (scanF l).length ((scanF l).flatMap ePt) ∧ Below w.heap.size w w' :=
  (callsIn_wide.1 (scanIn 3 (by omega) a l n c w hn h hl)).mono fun e w' ⟨v, m, he, ho, hm, hb⟩ => ⟨v, he, hm ▸ ho, hb⟩

end Go.Proofs.YthplgcakhniidaaGreat

/- stair.Of: the skyline. -/
namespace Go.Proofs.YthplgcakhniidaaGreat
open Go.RowKit Go.Maps

theorem ownsRow_mono {w : World} {base base' : Nat} {e : TypeId} {size : Nat} {v : Value} {n : Nat} {xs : List Value} (h : w.ownsRow base e size v n xs) (hb : base' ≤ base) : w.ownsRow base' e size v n xs := by
  obtain ⟨h1, h2⟩ := h
  refine ⟨h1, ?_⟩
  rcases h2 with h2 | ⟨g, cap, cur, hv, hg, r⟩
  · exact .inl h2
  · exact .inr ⟨g, cap, cur, hv, Nat.le_trans hb hg, r⟩

theorem unl_iff (l : List Pt) : unl l = true ↔ (ids l).Nodup := by simp [unl]
theorem unl_no (l : List Pt) : unl l = false ↔ ¬ (ids l).Nodup := by simp [unl]

set_option maxRecDepth 100000 in
set_option maxHeartbeats 2000000 in
theorem of_no (a : Option Addr) (l : List Pt) (n c : Nat) (w : World) (hn : l.length = n) (h : RdK ePt 3 w a l) (hl : n ≤ 1000000) (hw : wfI l) (hu : unl l = false) :
    Calls Tryz.prog 17 #[.slice a n c] w fun e w' => e = .returned (.tuple #[.slice none 0 0, .int .i64 2]) ∧ Below w.heap.size w w' := by
  subst hn
  have HR := Lib.hid h
  have HW := Lib.hid hw
  clear h hw
  go_enter Tryz.func17, Tryz.ntmps17
  go_wp2_with fail
  refine (unlike_calls w.heap.size 1 [(a, l, c)] _ (by simp) (lsts_one c 22 HR.out) (by rw [allP_one]; exact hl) (by simp) (by rw [allP_one]; exact HW.out)).mono ?_
  rw [allP_one, hu]
  rintro e w1 ⟨rfl, hb1⟩
  go_wp2
  go_ret2
  exact ⟨rfl, ((Below.refl _ w).alloc (Nat.le_refl _) _).trans (hb1.mono (by simp))⟩

set_option maxRecDepth 100000 in
set_option maxHeartbeats 2000000 in
theorem of_yes (a : Option Addr) (l : List Pt) (n c : Nat) (w : World) (hn : l.length = n) (h : RdK ePt 3 w a l) (hl : n ≤ 1000000) (hw : wfI l) (hu : unl l = true) :
    Calls Tryz.prog 17 #[.slice a n c] w fun e w' => ∃ v, e = .returned (.tuple #[v, .int .i64 0]) ∧ w'.ownsRow w.heap.size 34 3 v (skyOf l).length ((skyOf l).flatMap ePt) ∧ Below w.heap.size w w' := by
  subst hn
  have HR := Lib.hid h
  have HW := Lib.hid hw
  have hnd := (unl_iff l).1 hu
  have HND := Lib.hid hnd
  have hsl : (srtX l).length = l.length := (srtX_perm l).length_eq
  have hsk : scanF (srtX l) = skyOf l := scanF_sky _ (srtX_sorted hnd)
  have HS := Lib.hid hsk
  clear h hw hnd hsk
  go_enter Tryz.func17, Tryz.ntmps17
  go_wp2_with fail
  refine (unlike_calls w.heap.size 1 [(a, l, c)] _ (by simp) (lsts_one c 22 HR.out) (by rw [allP_one]; exact hl) (by simp) (by rw [allP_one]; exact HW.out)).mono ?_
  rw [allP_one, hu]
  rintro e w1 ⟨rfl, hb1⟩
  have B1 : Below w.heap.size w w1 := ((Below.refl _ w).alloc (Nat.le_refl _) _).trans (hb1.mono (by simp))
  go_wp2_with fail
  refine (clonePts a l l.length c w1 rfl (HR.out.below B1) hl).mono ?_
  rintro e w2 ⟨v, rfl, hown2, hb2⟩
  have B2 := B1.trans (hb2.mono B1.size)
  have S1 := B1.size
  have S2 := hb2.size
  obtain ⟨a2, c2, rfl, _, _, _⟩ := RdK.of_owns ePt_len (by decide) hown2
  go_wp2_with fail
  refine (sortPtsV rfl (by omega) hown2 HND.out S2).mono ?_
  rintro e w3 ⟨rfl, hown3, hb3⟩
  have B3 := B2.trans (hb3.mono S1)
  have hr3 : RdK ePt 3 w3 a2 (srtX l) := by
    obtain ⟨a3, c3, e3, _, _, hr3⟩ := RdK.of_owns ePt_len (by decide) hown3
    injection e3 with e4 _ _
    exact e4 ▸ hr3
  go_wp2_with fail
  refine (scan_calls hsl hr3 hl).mono ?_
  rw [HS.out]
  rintro e w4 ⟨v4, rfl, hown4, hb4⟩
  have B4 := B3.trans (hb4.mono B3.size)
  go_wp2
  go_ret2
  exact ⟨_, rfl, ownsRow_mono hown4 B3.size, B4⟩

end Go.Proofs.YthplgcakhniidaaGreat

/- gridironref10.Right, gridironlaw15.unlike: is no name there twice? -/
namespace Go.Proofs.YthplgcakhniidaaGreat
open Go.RowKit Go.Maps

theorem unl_no_of {l : List Pt} {i k : Nat} (hi : i < l.length) (hk : k < i) (h : l[i].2.2 = l[k].2.2) : unl l = false := by
  rw [unl_no]
  intro hn
  have := List.pairwise_iff_getElem.1 hn k i (by simp [ids]; omega) (by simpa [ids] using hi) hk
  simp [ids] at this
  exact this h.symm
theorem unl_yes_of {l : List Pt} (h : ∀ i (hi : i < l.length) k (hk : k < i), l[i].2.2 ≠ l[k].2.2) : unl l = true := by
  rw [unl_iff]
  refine List.pairwise_iff_getElem.2 fun k i hk hi hki => ?_
  simp only [ids, List.length_map] at hk hi
  simp only [ids, List.getElem_map]
  exact fun e => h i hi k hki e.symm

set_option maxRecDepth 100000 in
set_option maxHeartbeats 2000000 in
theorem ref_right (a : Option Addr) (l : List Pt) (n c : Nat) (w : World) (hn : l.length = n) (h : RdK ePt 3 w a l) (hl : n ≤ 1000000) :
    Calls Tryz.prog 25 #[.slice a n c] w fun e w' => e = .returned (.bool (unl l)) ∧ Below w.heap.size w w' := by
  subst hn
  have HR := Lib.hid h
  clear h
  generalize hr : unl l = r
  have HRR := Lib.hid hr
  clear hr
  go_enter Tryz.func25, Tryz.ntmps25
  go_wp2
  go_loopw [3] (fun iv wr => ∃ i : Nat, iv = .int .i64 i ∧ i ≤ l.length ∧ Below w.heap.size w wr ∧ Hid (∀ j (_ : j < l.length) k (_ : k < j), j < i → l[j].2.2 ≠ l[k].2.2)) (fun iv _ => l.length - (intOf iv).toNat)
  case atStart => exact ⟨0, rfl, Nat.zero_le _, Below.refl _ _, fun j _ k _ h => absurd h (Nat.not_lt_zero _)⟩
  case round =>
    obtain ⟨i, rfl, hi, hb, INV⟩ := hrel
    by_cases hlt : i < l.length
    · obtain ⟨wo, ewo⟩ : ∃ wo : World, wo = wr := ⟨_, rfl⟩
      subst ewo
      go_wp2
      go_loopw [4] (fun kv wr => ∃ k : Nat, kv = .int .i64 k ∧ k ≤ i ∧ Below w.heap.size w wr ∧ Hid (∀ j (_ : j < l.length), j < k → l[i].2.2 ≠ l[j].2.2)) (fun kv _ => i - (intOf kv).toNat)
      case atStart => exact ⟨0, rfl, Nat.zero_le _, hb, fun j _ h => absurd h (Nat.not_lt_zero _)⟩
      case round =>
        obtain ⟨k, rfl, hk, hb2, INV2⟩ := hrel
        by_cases hki : k < i
        · obtain ⟨b, off, ea, hbl, hcs⟩ := (HR.out.below hb2).get (by omega)
          have x2 := hcs i hlt 2 (by omega)
          have y2 := hcs k (by omega) 2 (by omega)
          simp only [ePt, List.getElem?_cons_zero, List.getElem?_cons_succ] at x2 y2
          have hkl : (k : Int) < (l.length : Int) := by omega
          by_cases he : l[i].2.2 = l[k].2.2
          · have hu : r = false := HRR.out ▸ unl_no_of hlt hki he
            have d1 : (l[i].2.2 == l[k].2.2) = true := by simp [he]
            subst hu
            have EA := Lib.hid ea
            clear hcs ea he INV INV2 HRR
            generalize l[i].2.2 = p at *
            generalize l[k].2.2 = q at *
            obtain rfl := EA.out
            clear EA
            go_wp2
            go_region
            all_goals
              go_wp2
              go_ret
              exact ⟨rfl, hb2.drew⟩
          · have d1 : (l[i].2.2 == l[k].2.2) = false := by simp [he]
            have I3 : Hid (∀ j (_ : j < l.length), j < k + 1 → l[i].2.2 ≠ l[j].2.2) := fun j hjl hj => by
              rcases Nat.lt_succ_iff_lt_or_eq.1 hj with h | rfl
              · exact INV2.out j hjl h
              · exact he
            have EA := Lib.hid ea
            clear hcs ea he INV2
            generalize l[i].2.2 = p at *
            generalize l[k].2.2 = q at *
            obtain rfl := EA.out
            clear EA
            go_wp2
            go_region
            all_goals
              go_wp2
              go_roundw
              case rel => exact ⟨k + 1, by go_num, by omega, hb2.drew, I3⟩
              case measure => simp [intOf]; omega
        · obtain rfl : k = i := by omega
          have I3 : Hid (∀ j (_ : j < l.length) m (_ : m < j), j < k + 1 → l[j].2.2 ≠ l[m].2.2) := fun j hj m hm hjk => by
            rcases Nat.lt_succ_iff_lt_or_eq.1 hjk with h | rfl
            · exact INV.out j hj m hm h
            · exact INV2.out m (by omega) hm
          go_wp2
          go_roundw
          case rel => exact ⟨k + 1, by go_num, by omega, hb2, I3⟩
          case measure => simp [intOf]; omega
    · have hu : r = true := HRR.out ▸ (unl_yes_of fun i hi k hk => INV.out i hi k hk (by omega))
      subst hu
      clear HRR
      go_wp2
      go_ret
      exact ⟨rfl, hb⟩

end Go.Proofs.YthplgcakhniidaaGreat
