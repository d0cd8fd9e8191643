/- Package sort: ordered: places put in order by their keys. -/
import Derived.Test.YtlhmipjbpbbcbaaKeyM
namespace Go.Proofs.Ytlhmipjbpbbcbaa
open Go.RowKit

/-- what ordered tells, by halves -/
def srtF (kf : Nat → Int × Int) : Nat → List Nat → List Nat
  | 0, l => l
  | f + 1, l => if l.length / 2 = 0 then l else (srtF kf f (l.take (l.length / 2))).merge (srtF kf f (l.drop (l.length / 2))) (leK kf)

/-- how many keys are written -/
def wrF : Nat → Nat → Nat
  | 0, _ => 0
  | f + 1, n => if n / 2 = 0 then 0 else wrF f (n / 2) + wrF f (n - n / 2) + n

theorem wrF_le : ∀ f n, wrF f n ≤ n * f
  | 0, n => by simp [wrF]
  | f + 1, n => by
    simp only [wrF]
    split
    · exact Nat.zero_le _
    · have h1 := wrF_le f (n / 2)
      have h2 := wrF_le f (n - n / 2)
      have h3 : (n / 2) * f + (n - n / 2) * f = n * f := by rw [← Nat.add_mul]; congr 1; omega
      rw [Nat.mul_succ]
      omega

theorem srtF_perm (kf : Nat → Int × Int) : ∀ f l, (srtF kf f l).Perm l
  | 0, l => .refl _
  | f + 1, l => by
    simp only [srtF]
    split
    · exact .refl _
    · refine (List.merge_perm_append _).trans ?_
      refine ((srtF_perm kf f _).append (srtF_perm kf f _)).trans ?_
      rw [List.take_append_drop]

theorem srtF_len (kf : Nat → Int × Int) (f : Nat) (l : List Nat) : (srtF kf f l).length = l.length := (srtF_perm kf f l).length_eq

set_option maxRecDepth 100000 in
set_option maxHeartbeats 1000000 in
theorem kOrdered (g : Nat) (cb : Array Value) (kf : Nat → Int × Int) (N : Nat) (W0 : World)
    (eg : ∀ args w, (callFunc g args).run Try.prog w = .ok (.enter g args) w)
    (hf : ∀ (W : World) (i : Nat), Below W0.heap.size W0 W → i < N → Calls Try.prog g (#[.int .i64 i] ++ cb) W fun e w' => e = .returned (.agg #[.int .i64 (kf i).1, .int .u32 (kf i).2]) ∧ Below W.heap.size W w') :
    ∀ (f : Nat) (l : List Nat) (n : Nat) (a : Option Addr) (c : Nat) (w : World), l.length = n → n ≤ f → n ≤ 200000 → f ≤ 200000 → Below W0.heap.size W0 w → Rd eNat w a l → n ≤ c → (∀ x ∈ l, x < N) →
    Calls Try.prog 48 #[.func (.func g) #[] cb, .slice a n c] w fun e w' => ∃ a' c', e = .returned (.tuple #[.slice a' n c', .int .i64 (wrF f n)]) ∧ n ≤ c' ∧ Rd eNat w' a' (srtF kf f l) ∧
      (2 ≤ n → w'.ownsRow w.heap.size 3 1 (.slice a' n c') n ((srtF kf f l).map eNat)) ∧ (n < 2 → a' = a ∧ c' = c ∧ Rd eNat w' a l) ∧ Below w.heap.size w w' := by
  have HF := Lib.hid hf
  clear hf
  intro f
  induction f with
  | zero =>
    intro l n a c w hl hn _ _ _ hr hc hN
    obtain rfl : n = 0 := by omega
    obtain rfl : l = [] := List.eq_nil_of_length_eq_zero hl
    have H := Lib.hid hr
    clear hr
    go_enter Try.func48, Try.ntmps48
    go_wp2
    go_ret2
    exact ⟨a, c, rfl, hc, H.out, fun h => by omega, fun _ => ⟨rfl, rfl, H.out⟩, Below.refl _ _⟩
  | succ f ih =>
    intro l n a c w hl hn hn2 hf2 hb0 hr hc hN
    have H := Lib.hid hr
    have IH := Lib.hid ih
    have HN := Lib.hid hN
    have HL := Lib.hid hl
    clear hr ih hN hl
    by_cases h2 : n / 2 = 0
    · have hs : srtF kf (f + 1) l = l := by simp only [srtF]; rw [HL.out, if_pos h2]
      have hw : wrF (f + 1) n = 0 := by simp only [wrF]; rw [if_pos h2]
      rw [hs, hw]
      have hz : ((n : Int) / 2 == 0) = true := by simp; omega
      clear hs hw
      go_enter Try.func48, Try.ntmps48
      go_wp2
      go_ret2
      exact ⟨a, c, rfl, hc, H.out, fun h => by omega, fun _ => ⟨rfl, rfl, H.out⟩, Below.refl _ _⟩
    · have hz : ((n : Int) / 2 == 0) = false := by simp; omega
      have e2 : ((n : Int) / 2).toNat = n / 2 := by omega
      obtain ⟨b, off, rfl, hbl, _⟩ := H.out.get (by rw [HL.out]; omega)
      have w1 := wrF_le f (n / 2)
      have w2 := wrF_le f (n - n / 2)
      have w3 : n / 2 * f ≤ 200000 * 200000 := Nat.mul_le_mul (by omega) (by omega)
      have w4 : (n - n / 2) * f ≤ 200000 * 200000 := Nat.mul_le_mul (by omega) (by omega)
      have C1 := Lib.hid (IH.out (l.take (n / 2)) (n / 2) (some ⟨b, off, none⟩) (n / 2) w (by rw [List.length_take, HL.out]; omega) (by omega) (by omega) (by omega) hb0 (H.out.take _) (Nat.le_refl _) (fun x hx => HN.out x (List.mem_of_mem_take hx)))
      generalize hS : srtF kf (f + 1) l = S
      have HS := Lib.hid hS
      clear hS
      generalize hW : wrF (f + 1) n = Wn
      have HW := Lib.hid hW
      clear hW
      go_enter Try.func48, Try.ntmps48
      go_wp2_with fail
      refine C1.out.mono ?_
      rintro e u1 ⟨a1, c1, rfl, hc1, hr1, _, _, hb1⟩
      have R1 := Lib.hid hr1
      clear hr1 C1
      have C2 := Lib.hid (IH.out (l.drop (n / 2)) (n - n / 2) (some ⟨b, off + n / 2, none⟩) (c - n / 2) u1 (by rw [List.length_drop, HL.out]) (by omega) (by omega) (by omega) (hb0.trans (hb1.mono hb0.size)) ((H.out.below hb1).drop _) (by omega) (fun x hx => HN.out x (List.mem_of_mem_drop hx)))
      go_wp2_with fail
      refine C2.out.mono ?_
      rintro e u2 ⟨a2, c2, rfl, hc2, hr2, _, _, hb2⟩
      have bu2 := hb1.trans (hb2.mono hb1.size)
      have bw2 := hb0.trans (bu2.mono hb0.size)
      have eA : (srtF kf f (l.take (n / 2))).length = n / 2 := by rw [srtF_len, List.length_take, HL.out]; omega
      have eB : (srtF kf f (l.drop (n / 2))).length = n - n / 2 := by rw [srtF_len, List.length_drop, HL.out]
      have lA : ∀ x ∈ srtF kf f (l.take (n / 2)), x < N := fun x hx => HN.out x (List.mem_of_mem_take ((srtF_perm kf f _).mem_iff.1 hx))
      have lB : ∀ x ∈ srtF kf f (l.drop (n / 2)), x < N := fun x hx => HN.out x (List.mem_of_mem_drop ((srtF_perm kf f _).mem_iff.1 hx))
      have cm := kMerged g cb kf N _ _ a1 a2 c1 c2 u2 (R1.out.below hb2) hr2 (by rw [eA]; exact hc1) (by rw [eB]; exact hc2) lA lB (by rw [eA, eB]; omega) eg (fun W i hb hi => HF.out W i (bw2.trans (hb.mono bw2.size)) hi)
      have eS : S = (srtF kf f (l.take (n / 2))).merge (srtF kf f (l.drop (n / 2))) (leK kf) := by
        rw [← HS.out]
        simp only [srtF]
        rw [HL.out, if_neg h2]
      have eW : wrF f (n / 2) + wrF f (n - n / 2) + n = Wn := by
        rw [← HW.out]
        simp only [wrF]
        rw [if_neg h2]
      have en : n / 2 + (n - n / 2) = n := by omega
      rw [eA, eB, en, ← eS] at cm
      have CM := Lib.hid cm
      have EW := Lib.hid eW
      clear cm eA eB eS eW en lA lB hr2 C2 IH H HN HL HS HW R1
      generalize wrF f (n / 2) = p at *
      generalize wrF f (n - n / 2) = q at *
      go_wp2_with fail
      refine CM.out.mono ?_
      rintro e u3 ⟨v3, rfl, hown3, hb3⟩
      have hown4 := ownsRow_mono hown3 bu2.size
      have hSl : S.length = n := by
        have := hown3.1
        simpa using this
      obtain ⟨a3, c3, rfl, _, hc3, hr3⟩ := Rd.of_owns hown3
      have HR := Lib.hid hr3
      have HO := Lib.hid hown4
      have HSl := Lib.hid hSl
      clear hr3 hown3 hown4 hSl CM
      rw [HSl.out] at hc3 ⊢
      rw [HSl.out] at HO
      go_wp2_with fail
      go_ret2
      refine ⟨a3, c3, ?_, hc3, HR.out, fun _ => HO.out, fun h => by omega, bu2.trans (hb3.mono bu2.size)⟩
      rw [← EW.out]
      simp
      exact ⟨HSl.out, by rw [HSl.out]⟩

end Go.Proofs.Ytlhmipjbpbbcbaa
