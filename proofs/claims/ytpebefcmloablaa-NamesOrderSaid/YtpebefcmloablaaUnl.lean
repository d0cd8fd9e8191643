/- stair.unlike: is no name there twice, in some lists? -/
import Derived.Test.YtpebefcmloablaaPtS
import Derived.Test.YtpebefcmloablaaMapJ
import Derived.Maps.OwnOps
namespace Go.Proofs.Ytpebefcmloablaa
open Go.RowKit Go.Maps

/-- lists of points that lie in a row of slices -/
def Lsts (W : World) (X : Nat) (LS : List (Option Addr × List Pt × Nat)) : Prop :=
  ∀ (j : Nat) (h : j < LS.length), W.cell? ⟨X, j, none⟩ = some (.slice LS[j].1 LS[j].2.1.length LS[j].2.2) ∧ RdK ePt 3 W LS[j].1 LS[j].2.1

theorem Lsts.below {W W' : World} {X B : Nat} {LS : List (Option Addr × List Pt × Nat)} (h : Lsts W X LS) (hX : X < B) (hb : Below B W W') (hB : W.heap.size ≤ B) : Lsts W' X LS := fun j hj =>
  ⟨(hb.cell (p := ⟨X, j, none⟩) hX).trans (h j hj).1, (h j hj).2.below (hb.mono hB)⟩

def allP (LS : List (Option Addr × List Pt × Nat)) : List Pt := LS.flatMap (·.2.1)
def wfI (l : List Pt) : Prop := ∀ p ∈ l, (Lit.int .u32 p.2.2).wf = true

theorem allP_take (LS : List (Option Addr × List Pt × Nat)) (j : Nat) (h : j < LS.length) : allP (LS.take (j + 1)) = allP (LS.take j) ++ LS[j].2.1 := by
  unfold allP
  rw [List.take_succ_eq_append_getElem h, List.flatMap_append, List.flatMap_singleton]
theorem allP_len (LS : List (Option Addr × List Pt × Nat)) (j : Nat) : (allP (LS.take j)).length ≤ (allP LS).length := by
  have h : allP LS = allP (LS.take j) ++ allP (LS.drop j) := by
    unfold allP; rw [← List.flatMap_append, List.take_append_drop]
  rw [h, List.length_append]; omega

/-- a map whose keys are these names -/
def KeysAre {H : Type} (D : DataW H) (L : List Int) : Prop := ∃ f s, IsM .u32 .i64 D f s ∧ ∀ x, (f x).isSome = true ↔ x ∈ L
theorem KeysAre.nil {H : Type} : KeysAre (H := H) (.map []) [] := ⟨_, _, IsM.empty _ _, by simp⟩
theorem KeysAre.put {H : Type} {D : DataW H} {L : List Int} (h : KeysAre D L) (x v : Int) : KeysAre (D.put (.int .u32 x) (.lit (.int .i64 v))) (L ++ [x]) := by
  obtain ⟨f, s, h1, h2⟩ := h
  refine ⟨_, _, h1.put x v, fun y => ?_⟩
  unfold putF
  by_cases hy : y = x
  · simp [hy]
  · simp [hy, h2]
theorem KeysAre.size {H : Type} {D : DataW H} {L : List Int} (h : KeysAre D L) : (((Maps.size D : Nat) : Int) == ((L.length : Nat) : Int)) = decide L.Nodup := by
  obtain ⟨f, s, h1, h2⟩ := h
  rw [h1.2.1, ← len_eq_nodup L s h1.2.2.1 (fun x => (h1.2.2.2.1 x).trans (h2 x))]
  rw [Bool.eq_iff_iff]
  simp only [beq_iff_eq, decide_eq_true_eq]
  omega

set_option maxRecDepth 100000 in
set_option maxHeartbeats 2000000 in
theorem unlike_calls (X c : Nat) (LS : List (Option Addr × List Pt × Nat)) (w : World) (hX : X < w.heap.size) (hL : Lsts w X LS) (hn : (allP LS).length ≤ 1000000) (hm : LS.length ≤ 1000000) (hw : wfI (allP LS)) :
    Calls Try.prog 39 #[.slice (some ⟨X, 0, none⟩) LS.length c] w fun e w' => e = .returned (.bool (unl (allP LS))) ∧ Below w.heap.size w w' := by
  have HL := Lib.hid hL
  have HW := Lib.hid hw
  clear hL hw
  have hmm := @run_makeMap Try.prog
  go_enter Try.func39, Try.ntmps39
  go_wp2
  go_loopw [4, 12] (fun nv jv wr => ∃ j : Nat, jv = .int .i64 j ∧ j ≤ LS.length ∧ nv = .int .i64 ((allP (LS.take j)).length : Nat) ∧ Below w.heap.size w wr ∧
      Hid (∃ (D : DataW Unit), wr.ownsMap Try.prog 31 (plainElem Try.prog 3) w.heap.size (allP (LS.take j)).length D ∧ KeysAre D (ids (allP (LS.take j))))) (fun _ jv _ => LS.length - (intOf jv).toNat)
  case atStart => exact ⟨0, rfl, Nat.zero_le _, rfl, (Below.refl _ _).alloc (Nat.le_refl _) _, ⟨.map [], World.ownsMap_made _ _ _ _, KeysAre.nil⟩⟩
  case round =>
    obtain ⟨j, rfl, hj, rfl, hb, HO⟩ := hrel
    by_cases hlt : j < LS.length
    · have hc := ((HL.out.below hX hb (Nat.le_refl _)) j hlt).1
      have hr := (HL.out j hlt).2
      have hlen := allP_len LS (j + 1)
      have et := allP_take LS j hlt
      rw [et, List.length_append] at hlen
      have HW2 : Hid (wfI LS[j].2.1) := fun p hp => HW.out p (by unfold allP; exact List.mem_flatMap.2 ⟨_, List.getElem_mem hlt, hp⟩)
      have ET := Lib.hid et
      clear et
      generalize LS[j] = q at *
      obtain ⟨a, l, cq⟩ := q
      simp only at hc hr hlen HW2
      have hnw : ((allP (LS.take j)).length : Int) + (l.length : Int) ≤ 1000000 := by omega
      generalize hP : allP (LS.take j) = P at *
      have HP := Lib.hid hP
      have HR := Lib.hid hr
      have HB := Lib.hid hb
      have hS1 := hb.size
      clear hP hr hb
      have hPl : P.length ≤ 1000000 := by omega
      have hll : l.length ≤ 1000000 := by omega
      generalize hNN : P.length = N at *
      obtain ⟨wo, ewo⟩ : ∃ wo : World, wo = wr := ⟨_, rfl⟩
      subst ewo
      go_wp2
      go_loopw [22] (fun iv wr2 => ∃ i : Nat, iv = .int .i64 i ∧ i ≤ l.length ∧ Below w.heap.size wo wr2 ∧
          Hid (∃ (D : DataW Unit), wr2.ownsMap Try.prog 31 (plainElem Try.prog 3) w.heap.size (N + i) D ∧ KeysAre D (ids (P ++ l.take i)))) (fun iv _ => l.length - (intOf iv).toNat)
      case atStart => exact ⟨0, rfl, Nat.zero_le _, Below.refl _ _, by simpa using HO⟩
      case round =>
        obtain ⟨i, rfl, hi, hb2, HO2⟩ := hrel
        by_cases hil : i < l.length
        · obtain ⟨b, off, ea, hbl, hcs⟩ := (HR.out.below (HB.out.trans hb2)).get (by omega)
          have x0 := hcs i hil 0 (by omega)
          have x1 := hcs i hil 1 (by omega)
          have x2 := hcs i hil 2 (by omega)
          simp only [ePt, List.getElem?_cons_zero, List.getElem?_cons_succ, Nat.add_zero] at x0 x1 x2
          have et : l.take (i + 1) = l.take i ++ [l[i]] := List.take_succ_eq_append_getElem hil
          have hkey : Hid (keyOf Try.prog 31 (.int .u32 l[i].2.2) = some (.int .u32 l[i].2.2)) := keyOf_int_mk Try.underlying31 (HW2.out _ (List.getElem_mem _))
          obtain ⟨D, hown0, hD⟩ := HO2.out
          have hD2 := hD.put l[i].2.2 i
          rw [show ids (P ++ l.take i) ++ [l[i].2.2] = ids (P ++ l.take (i + 1)) by rw [et]; unfold ids; rw [← List.append_assoc, List.map_append (l₁ := P ++ l.take i)]; rfl] at hD2
          have HD2 := Lib.hid hD2
          have hS2 := hb2.size
          have EA := Lib.hid ea
          clear HO2 et hcs hD hD2 ea
          generalize l[i] = p at *
          obtain ⟨px, py, pi⟩ := p
          obtain rfl := EA.out
          clear EA
          have hown := hown0.kept (World.grownBy_alloc wr (.cells #[.int .i64 px, .int .i64 py, .int .u32 pi] 33) none) (by simp)
          go_wp2_with (at_mapUpdate; refine wpList_mapUpdate_own _ rfl _ _ _ 43 rfl 31 3 (int_keyed Try.underlying31) Try.underlying43 _ w.heap.size (N + i) _ rfl hown (by unfold maxLen; omega) _ _ _ rfl rfl hkey.out _ [] (plainElem_int Try.underlying3 (by simp [Lit.wf, IntKind.min, IntKind.max, IntKind.bits, IntKind.signed]; omega)) ?_; intro w3 hown3 hgrow3)
          have B3 : Below w.heap.size wr w3 := (((Below.refl _ wr).alloc (by omega) _)).grown hgrow3 (by simp; omega) (fun j ej => by cases ej; omega)
          have HO3 : Hid (∃ (D : DataW Unit), w3.ownsMap Try.prog 31 (plainElem Try.prog 3) w.heap.size (N + (i + 1)) D ∧ KeysAre D (ids (P ++ l.take (i + 1)))) := ⟨_, hown3, HD2.out⟩
          have B4 := hb2.trans B3
          clear hown3 hgrow3 hown hown0 HD2
          go_wp2
          go_roundw
          case rel => exact ⟨i + 1, by go_num, by omega, B4, HO3⟩
          case measure => simp [intOf]; omega
        · obtain rfl : i = l.length := by omega
          go_wp2
          go_roundw
          case rel =>
            refine ⟨j + 1, by go_num, by omega, ?_, HB.out.trans hb2, ?_⟩
            · rw [ET.out, List.length_append, hNN]; go_num
            · rw [ET.out, List.length_append, hNN]
              rw [List.take_length] at HO2
              exact HO2
          case measure => simp [intOf]; omega
    · obtain rfl : j = LS.length := by omega
      rw [List.take_length] at HO ⊢
      obtain ⟨D, hown, hD⟩ := HO.out
      have hsize := hD.size
      rw [show ((ids (allP LS)).length : Int) = ((allP LS).length : Int) by simp [ids]] at hsize
      have HS := Lib.hid hsize
      clear hsize hD HO
      go_wp2_with (at_len; refine wpList_len_own _ rfl _ 43 rfl 31 3 Try.underlying43 _ w.heap.size _ _ rfl hown ?_)
      go_ret
      exact ⟨by rw [HS.out]; rfl, hb⟩

end Go.Proofs.Ytpebefcmloablaa
