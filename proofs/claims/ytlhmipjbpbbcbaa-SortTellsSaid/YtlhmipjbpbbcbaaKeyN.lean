/- gridironlow.Apart at lists that lie in blocks of their own. -/
import Derived.Test.YtlhmipjbpbbcbaaKeyW
import Derived.Test.YtlhmipjbpbbcbaaKeyR
import Derived.Deep.RegionHeld3
namespace Go.Proofs.Ytlhmipjbpbbcbaa
open Go.RowKit

/-- list j's block: those before k are full of their number, k's first i cells too -/
def Aps (c g : Nat → Nat) (K k i : Nat) (wr : World) : Prop :=
  ∀ j, j < K → 0 < c j → ∃ cu : Array Value, wr.heap[g j]? = some (.cells cu 3 (0, 0)) ∧ cu.size = c j ∧ (j < k → ∀ t, t < c j → cu[t]? = some (.int .i64 (-7 - (j : Int)))) ∧ (j = k → ∀ t, t < i → cu[t]? = some (.int .i64 (-7 - (j : Int))))

theorem Aps.heap {c g : Nat → Nat} {K k i : Nat} {w w' : World} (h : Aps c g K k i w) (he : ∀ j, j < K → 0 < c j → w'.heap[g j]? = w.heap[g j]?) : Aps c g K k i w' := fun j hj hc => by
  obtain ⟨cu, h1, h2⟩ := h j hj hc
  exact ⟨cu, (he j hj hc).trans h1, h2⟩

theorem Aps.next {c g : Nat → Nat} {K k : Nat} {w : World} (h : Aps c g K k (c k) w) : Aps c g K (k + 1) 0 w := fun j hj hc => by
  obtain ⟨cu, h1, h2, h3, h4⟩ := h j hj hc
  refine ⟨cu, h1, h2, fun hjk t ht => ?_, fun _ t ht => absurd ht (Nat.not_lt_zero _)⟩
  by_cases e : j = k
  · subst e; exact h4 rfl t ht
  · exact h3 (by omega) t ht

theorem Aps.store {c g : Nat → Nat} {K k i : Nat} {w : World} (h : Aps c g K k i w) (hg : ∀ j j', j < K → j' < K → 0 < c j → 0 < c j' → g j = g j' → j = j') (hk : k < K) (hi : i < c k) :
    Aps c g K k (i + 1) (w.setCell ⟨g k, i, none⟩ (.int .i64 (-7 - (k : Int)))) := fun j hj hc => by
  obtain ⟨cu, h1, h2, h3, h4⟩ := h j hj hc
  have hm : (w.setCell ⟨g k, i, none⟩ (.int .i64 (-7 - (k : Int)))).heap[g j]? = if g k = g j then some (.cells (cu.setIfInBounds i (.int .i64 (-7 - (k : Int)))) 3 (0, 0)) else some (.cells cu 3 (0, 0)) := by
    show (w.heap.modify (g k) _)[g j]? = _
    rw [Array.getElem?_modify]
    split
    · rw [h1]; rfl
    · exact h1
  by_cases e : j = k
  · subst e
    rw [if_pos rfl] at hm
    refine ⟨_, hm, by simpa using h2, fun hjk => absurd hjk (Nat.lt_irrefl _), fun _ t ht => ?_⟩
    by_cases et : t = i
    · subst et; simp [h2, hi]
    · rw [Array.getElem?_setIfInBounds_ne (Ne.symm et)]; exact h4 rfl t (by omega)
  · rw [if_neg (fun e2 => e (hg k j hk hj (by omega) hc e2).symm)] at hm
    exact ⟨cu, hm, h2, h3, fun e2 => absurd e2 e⟩

theorem Aps.cell {c g : Nat → Nat} {K k i : Nat} {w : World} (h : Aps c g K k i w) {j t : Nat} (hj : j < K) (ht : t < c j) : ∃ v, w.cell? ⟨g j, t, none⟩ = some v ∧ w.frozen? ⟨g j, t, none⟩ = false ∧ (j < k → v = .int .i64 (-7 - (j : Int))) := by
  obtain ⟨cu, h1, h2, h3, h4⟩ := h j hj (by omega)
  refine ⟨cu[t], ?_, ?_, fun hjk => ?_⟩
  · unfold World.cell?
    simp only [h1]
    simp [show t < cu.size by omega]
  · unfold World.frozen?
    simp [h1]
  · have := h3 hjk t ht
    simpa [show t < cu.size by omega] using this

theorem owns_same {w w' : World} {base : Nat} {e : TypeId} {size n : Nat} {v : Value} {xs : List Value} (h : w.ownsRow base e size v n xs) (he : ∀ gb, v.ownBlock = some gb → w'.heap[gb]? = w.heap[gb]?) : w'.ownsRow base e size v n xs := by
  obtain ⟨h1, h2⟩ := h
  refine ⟨h1, ?_⟩
  rcases h2 with h | ⟨g, cap, cur, rfl, hg, hh, r⟩
  · exact .inl h
  · exact .inr ⟨g, cap, cur, rfl, hg, (he g rfl).trans hh, r⟩

theorem heap_set_ne {w : World} {a : Addr} {v : Value} {b : Nat} (h : a.block ≠ b) : (w.setCell a v).heap[b]? = w.heap[b]? := Below.heap_setCell w a v b (Ne.symm h)

/-- blocks that are no list's stand -/
def Frm (c g : Nat → Nat) (K : Nat) (w wr : World) : Prop := ∀ b, b < w.heap.size → (∀ j, j < K → 0 < c j → g j ≠ b) → wr.heap[b]? = w.heap[b]?

def eSl (A : Nat → Option Addr) (c : Nat → Nat) (j : Nat) : Value := .slice (A j) (c j) (c j)

theorem elSl : ElemOK Try.prog 74 41 1 24 := .mk' (z := .slice none 0 0) Try.underlying74 (by kernel_rfl) rfl (by decide)

set_option maxRecDepth 100000 in
set_option maxHeartbeats 4000000 in
theorem apartK (K : Nat) (A : Nat → Option Addr) (n c g : Nat → Nat) (L C B : Nat) (w : World) (hK : K ≤ 100) (hL : ∀ j, j < K → w.cell? ⟨L, j, none⟩ = some (.slice (A j) (n j) (c j))) (hLb : L < w.heap.size)
    (hA : ∀ j, j < K → 0 < c j → A j = some ⟨g j, 0, none⟩ ∧ B ≤ g j) (hg : ∀ j j', j < K → j' < K → 0 < c j → 0 < c j' → g j = g j' → j = j') (hgl : ∀ j, j < K → 0 < c j → g j < w.heap.size ∧ g j ≠ L)
    (hnc : ∀ j, j < K → n j ≤ c j ∧ c j ≤ 9223372036854775807) (hB : B ≤ w.heap.size) (h0 : Aps c g K 0 0 w) :
    Calls Try.prog 39 #[.slice (some ⟨L, 0, none⟩) K C] w fun e w' => e = .returned (.bool true) ∧ Below B w w' ∧ Frm c g K w w' := by
  have HL := Lib.hid hL
  have HA := Lib.hid hA
  have HG := Lib.hid hg
  have HGL := Lib.hid hgl
  have HN := Lib.hid hnc
  have H0 := Lib.hid h0
  clear hL hA hg hgl hnc h0
  go_enter Try.func39, Try.ntmps39
  go_wp2
  go_loopw [3, 4] (fun v kv wr => ∃ (k : Nat) (wa : Option Addr) (wc : Nat), kv = .int .i64 k ∧ v = .slice wa k wc ∧ k ≤ K ∧ Hid (wr.ownsRow w.heap.size 41 1 v k ((List.range k).map (eSl A c))) ∧ Hid (Aps c g K k 0 wr) ∧ Hid (∀ j, j < K → wr.cell? ⟨L, j, none⟩ = some (.slice (A j) (n j) (c j))) ∧ Hid (Frm c g K w wr) ∧ Below B w wr) (fun _ kv _ => K - (intOf kv).toNat)
  case atStart => exact ⟨0, none, 0, rfl, rfl, Nat.zero_le _, World.ownsRow_nil _ _ _ _, H0.out, HL.out, fun _ _ _ => rfl, Below.refl _ _⟩
  case round =>
    obtain ⟨k, wa, wc, rfl, rfl, hk, HO, HP, HC, HF, hb⟩ := hrel
    by_cases hlt : k < K
    · have hx := HC.out k hlt
      obtain ⟨q1, q2⟩ := HN.out k hlt
      have HOd : ((wr.alloc (.cells #[.slice (A k) (c k) (c k)] 41)).drew).ownsRow w.heap.size 41 1 (.slice wa k wc) k ((List.range k).map (eSl A c)) := (HO.out.alloc _).drewAny 1
      have rl : Rd (eSl A c) ((wr.alloc (.cells #[.slice (A k) (c k) (c k)] 41)).drew) (some ⟨wr.heap.size, 0, none⟩) [k] := (Rd.lit (enc := eSl A c) wr 41 [k] _ rfl).below (Below.drew (Below.refl (wr.heap.size + 1) _)) (by simp)
      obtain ⟨v2, w2, R2, hown2, hg2⟩ := run_appendL (ty := 74) (P := Try.prog) elSl (fun _ => rfl) w.heap.size HOd rl 1 (by simp; unfold maxLen; omega) (by simp; omega) (by simp; have := hb.size; omega)
      have b2 : Below w.heap.size wr w2 := below_grown (((Below.refl w.heap.size wr).alloc hb.size _).drew) HOd hg2 (by simp; have := hb.size; omega) (Nat.le_refl _)
      obtain ⟨a2, c2, rfl, hn2, _, hr2⟩ := Rd.of_owns (l := List.range k ++ [k]) (enc := eSl A c) (by simpa using hown2)
      have hown3 : w2.ownsRow w.heap.size 41 1 (.slice a2 (k + 1) c2) (k + 1) ((List.range (k + 1)).map (eSl A c)) := by
        rw [List.range_succ]
        simpa using hown2
      have HO3 := Lib.hid hown3
      simp only [List.length_append, List.length_range, List.length_singleton] at R2
      have HP2 : Hid (Aps c g K k 0 w2) := HP.out.heap fun j hj hc => b2.block _ (HGL.out j hj hc).1
      have B2 := hb.trans (b2.mono hB)
      have HF2 : Hid (Frm c g K w w2) := fun b hb' hj => (b2.block b hb').trans (HF.out b hb' hj)
      have hc2 := Rd.get hr2 (by simp)
      obtain ⟨gb, go_, ea2, hgb, hcc⟩ := hc2
      have hsl := hcc k (by simp)
      rw [show (List.range k ++ [k])[k]'(by simp) = k by simp] at hsl
      obtain ⟨hgn, hgo⟩ : w.heap.size ≤ gb ∧ go_ = 0 := by
        rcases hown3.2 with ⟨h1, _⟩ | ⟨gx, cx, cu, hx1, hx2, _⟩
        · rw [ea2] at h1; cases h1
        · rw [ea2] at hx1
          injection hx1 with h1 h2 h3
          injection h1 with h1
          injection h1 with h1 h4 h5
          exact ⟨by omega, h4⟩
      subst hgo
      have HC2 : Hid (∀ j, j < K → w2.cell? ⟨L, j, none⟩ = some (.slice (A j) (n j) (c j))) := fun j hj => (b2.cell (p := ⟨L, j, none⟩) hLb).trans (HC.out j hj)
      have hx2 := HC2.out k hlt
      have hdx : ((wr.alloc (.cells #[.slice (A k) (c k) (c k)] 41)).drew).cell? ⟨L, k, none⟩ = some (.slice (A k) (n k) (c k)) := by
        rw [← hx]
        exact (((Below.refl w.heap.size wr).alloc hb.size _).drew.cell (p := ⟨L, k, none⟩) hLb)
      have hsl0 : Hid (w2.cell? ⟨gb, k, none⟩ = some (.slice (A k) (c k) (c k))) := by
        have := hsl
        rw [Nat.zero_add] at this
        exact this
      subst ea2
      clear hown2 hown3 rl HOd hg2 hn2 HO HC HP HF hsl hcc hr2
      have hki : (0 : Int) ≤ (k : Int) := by omega
      have hki2 : (k : Int) < (K : Int) := by omega
      go_wp2_with fail
      go_region_held3 (fun w' => w'.cell? ⟨L, k, none⟩ = some (.slice (A k) (n k) (c k)))
        (first | (with_reducible exact hx) | (with_reducible exact hx2) | (with_reducible exact hdx) | go_keep)
        ((refine step_run_append rfl (.tmp 14) (.tmp 25) rfl R2 (by simp [Act.eval]) (by simp [Act.eval]) ?_))
      go_wp2_with fail
      clear R2 hdx hx hx2
      go_loopw [5] (fun iv wi => ∃ i : Nat, iv = .int .i64 i ∧ i ≤ c k ∧ Hid (Aps c g K k i wi) ∧ Hid (wi.ownsRow w.heap.size 41 1 (.slice (some ⟨gb, 0, none⟩) (k + 1) c2) (k + 1) ((List.range (k + 1)).map (eSl A c))) ∧
          wi.cell? ⟨gb, k, none⟩ = some (.slice (A k) (c k) (c k)) ∧ Hid (∀ j, j < K → wi.cell? ⟨L, j, none⟩ = some (.slice (A j) (n j) (c j))) ∧ Hid (Frm c g K w wi) ∧ Below B w wi) (fun iv _ => c k - (intOf iv).toNat)
      case atStart => exact ⟨0, rfl, Nat.zero_le _, HP2.out, HO3.out, hsl0.out, HC2.out, HF2.out, B2⟩
      case round =>
        obtain ⟨i, rfl, hi, HPi, HOi, hci, HCi, HFi, hbi⟩ := hrel
        by_cases hlti : i < c k
        · obtain ⟨eA, hBg⟩ := HA.out k hlt (by omega)
          obtain ⟨g1, g2⟩ := HGL.out k hlt (by omega)
          obtain ⟨v, hv1, hv2, _⟩ := HPi.out.cell hlt hlti
          have HPn := Lib.hid (HPi.out.store HG.out hlt hlti)
          have HOn : Hid ((wr.setCell ⟨g k, i, none⟩ (.int .i64 (-7 - (k : Int)))).ownsRow w.heap.size 41 1 (.slice (some ⟨gb, 0, none⟩) (k + 1) c2) (k + 1) ((List.range (k + 1)).map (eSl A c))) := owns_same HOi.out fun gx hx => by
            injection hx with hx
            subst hx
            exact heap_set_ne (by show g k ≠ gb; omega)
          have HCn : Hid (∀ j, j < K → (wr.setCell ⟨g k, i, none⟩ (.int .i64 (-7 - (k : Int)))).cell? ⟨L, j, none⟩ = some (.slice (A j) (n j) (c j))) :=
            fun j hj => (cell_set_ne (by intro e; injection e with e1 _ _; exact g2 e1)).trans (HCi.out j hj)
          have hcn : (wr.setCell ⟨g k, i, none⟩ (.int .i64 (-7 - (k : Int)))).cell? ⟨gb, k, none⟩ = some (.slice (A k) (c k) (c k)) := (cell_set_ne (by intro e; injection e with e1 _ _; omega)).trans hci
          have hbn : Below B w (wr.setCell ⟨g k, i, none⟩ (.int .i64 (-7 - (k : Int)))) := hbi.setCell hBg _
          have HFn : Hid (Frm c g K w (wr.setCell ⟨g k, i, none⟩ (.int .i64 (-7 - (k : Int))))) := fun b hb' hj => (heap_set_ne (by show g k ≠ b; exact hj k hlt (by omega))).trans (HFi.out b hb' hj)
          rw [eA] at hci hcn
          have Hcn := Lib.hid hcn
          have HEA := Lib.hid eA
          have hck := (HN.out k hlt).2
          clear HPi HOi HCi HFi eA hcn hbi
          generalize g k = gk at *
          generalize c k = ck at *
          go_wp2
          go_roundw
          case rel => exact ⟨i + 1, by go_num, by omega, HPn, HOn, by rw [HEA.out]; exact Hcn.out, HCn, HFn, hbn⟩
          case measure => simp [intOf]; omega
        · obtain rfl : i = c k := by omega
          have HPn := Lib.hid HPi.out.next
          go_wp2
          go_roundw
          case rel => exact ⟨k + 1, _, _, by go_num, rfl, by omega, HOi, HPn, HCi, HFi, hbi⟩
          case measure => simp [intOf]; omega
    · obtain rfl : k = K := by omega
      clear HC H0 HL
      obtain ⟨wo, ewo⟩ : ∃ wo : World, wo = wr := ⟨_, rfl⟩
      subst ewo
      obtain ⟨aw, cw, ew, -, -, hrw⟩ := Rd.of_owns (l := List.range k) (enc := eSl A c) HO.out
      injection ew with ew1 ew3 ew2
      clear ew3
      subst ew1 ew2
      have RW := Lib.hid hrw
      clear hrw HO hlt hk
      go_wp2
      go_loopw [6] (fun kv wi => ∃ q : Nat, kv = .int .i64 q ∧ q ≤ k ∧ Below wo.heap.size wo wi) (fun kv _ => k - (intOf kv).toNat)
      case atStart => exact ⟨0, rfl, Nat.zero_le _, Below.refl _ _⟩
      case round =>
        obtain ⟨q, rfl, hq, hbq⟩ := hrel
        by_cases hlq : q < k
        · obtain ⟨wq, ewq⟩ : ∃ wq : World, wq = wr := ⟨_, rfl⟩
          subst ewq
          obtain ⟨gb, off, rfl, hgb, hcell⟩ := RW.out.get (by simp; omega)
          have hsl := hcell q (by simpa using hlq)
          simp only [List.getElem_range] at hsl
          have hck := (HN.out q hlq).2
          have HSL : Hid (wo.cell? ⟨gb, off + q, none⟩ = some (.slice (A q) (c q) (c q))) := hsl
          clear hcell hsl
          go_wp2
          go_loopw [7] (fun iv wi => ∃ i : Nat, iv = .int .i64 i ∧ i ≤ c q ∧ Below wo.heap.size wo wi) (fun iv _ => c q - (intOf iv).toNat)
          case atStart => exact ⟨0, rfl, Nat.zero_le _, hbq⟩
          case round =>
            obtain ⟨i, rfl, hi, hbi⟩ := hrel
            have x1 := (hbi.cell (p := ⟨gb, off + q, none⟩) hgb).trans HSL.out
            by_cases hlti : i < c q
            · obtain ⟨eA, _⟩ := HA.out q hlq (by omega)
              obtain ⟨v, hv1, _, hv3⟩ := HP.out.cell hlq hlti
              have hgq := World.block_lt_of_cell? wo _ hv1
              have x2 := (hbi.cell (p := ⟨g q, i, none⟩) hgq).trans hv1
              rw [hv3 hlq] at x2
              rw [eA] at x1
              have hne : ((-7 - (q : Int)) != (-7 - (q : Int))) = false := by simp
              clear hv1 hv3 eA
              generalize g q = gq at *
              generalize c q = cq at *
              go_wp2
              go_roundw
              case rel => exact ⟨i + 1, by go_num, by omega, hbi⟩
              case measure => simp [intOf]; omega
            · obtain rfl : i = c q := by omega
              go_wp2
              go_roundw
              case rel => exact ⟨q + 1, by go_num, by omega, hbi⟩
              case measure => simp [intOf]; omega
        · go_wp2
          go_ret
          exact ⟨rfl, hb.trans (hbq.mono (Nat.le_trans hB (by have := hb.size; omega))), fun b hb' hj => (hbq.block b (Nat.lt_of_lt_of_le hb' hb.size)).trans (HF.out b hb' hj)⟩

end Go.Proofs.Ytlhmipjbpbbcbaa
