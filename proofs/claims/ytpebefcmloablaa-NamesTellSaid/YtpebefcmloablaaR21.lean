/- The reference of chapter 21: Find, Drop. -/
import Derived.Test.YtpebefcmloablaaL21g
namespace Go.Proofs.Ytpebefcmloablaa
open Go.RowKit Go.Maps
set_option linter.unusedSimpArgs false
set_option linter.unusedVariables false

theorem elRef21 : ElemOK Try.prog 49 54 2 16 := .mk' (z := .agg #[.int .u32 0, .int .i64 0]) Try.underlying49 (by kernel_rfl) rfl (by decide)

/-- where a name stands in a list -/
def AtIn (M : List Ent) (id : Int) (k : Int) : Prop := (∃ i : Nat, ∃ h : i < M.length, k = i ∧ M[i].1 = id) ∨ (k = -1 ∧ ∀ x ∈ M, x.1 ≠ id)

set_option maxRecDepth 100000 in
set_option maxHeartbeats 2000000 in
theorem ref21_find (a : Option Addr) (M : List Ent) (c : Nat) (id : Int) (W : World) (h : RdK eEnt 2 W a M) (hl : M.length ≤ 100000) :
    Calls Try.prog 29 #[.slice a M.length c, .int .u32 id] W fun e w' => ∃ k, e = .returned (.int .i64 k) ∧ AtIn M id k ∧ w' = W := by
  have HR := Lib.hid h
  clear h
  go_enter Try.func29, Try.ntmps29
  go_wp2
  go_loop [5] (fun kv => ∃ k : Nat, kv = .int .i64 k ∧ k ≤ M.length ∧ Hid (∀ x ∈ M.take k, x.1 ≠ id)) (fun kv => M.length - (intOf kv).toNat)
  case atStart => exact ⟨0, rfl, Nat.zero_le _, (fun x hx => absurd hx (by simp))⟩
  case round =>
    obtain ⟨k, rfl, hk, HN⟩ := hrel
    by_cases hkl : k < M.length
    · obtain ⟨b, off, ea, hbl, hcs⟩ := HR.out.get (by omega)
      have x0 := hcs k hkl 0 (by omega)
      simp only [eEnt, List.getElem?_cons_zero, Nat.add_zero] at x0
      have HY : Hid (M[k].1 = id → AtIn M id k) := fun h9 => .inl ⟨k, hkl, rfl, h9⟩
      have HX : Hid (M[k].1 ≠ id → ∀ x ∈ M.take (k + 1), x.1 ≠ id) := fun h9 x hx => by
        rw [List.take_succ_eq_append_getElem hkl] at hx
        rcases List.mem_append.1 hx with h8 | h8
        · exact HN.out x h8
        · simp at h8; rw [h8]; exact h9
      have EA := Lib.hid ea
      clear hcs ea
      generalize M[k] = y at *
      obtain ⟨yi, yp⟩ := y
      simp only at x0 HX HY
      obtain rfl := EA.out
      clear EA
      have hkl2 : (k : Int) < (M.length : Int) := by omega
      by_cases he : yi = id
      · have HF := Lib.hid (HY.out he)
        subst he
        clear HX HY HN
        go_wp2
        go_ret
        exact ⟨_, rfl, HF.out, rfl⟩
      · have HF := Lib.hid (HX.out he)
        have de : (yi == id) = false := by simp [he]
        clear HX HY HN he
        go_wp2
        go_round
        case rel => exact ⟨k + 1, by go_num, by omega, HF⟩
        case measure => simp [intOf]; omega
    · obtain rfl : k = M.length := by omega
      have HF : Hid (AtIn M id (-1)) := .inr ⟨rfl, by have := HN.out; rwa [List.take_length] at this⟩
      clear HN
      go_wp2
      go_ret
      exact ⟨_, rfl, HF.out, rfl⟩

set_option maxRecDepth 100000 in
set_option maxHeartbeats 4000000 in
theorem ref21_drop (a : Option Addr) (M : List Ent) (c : Nat) (at_ : Nat) (W : World) (h : RdK eEnt 2 W a M) (hl : M.length ≤ 100000) :
    Calls Try.prog 33 #[.slice a M.length c, .int .i64 at_] W fun e w' => ∃ v, e = .returned v ∧ w'.ownsRow W.heap.size 54 2 v (M.eraseIdx at_).length ((M.eraseIdx at_).flatMap eEnt) ∧ Below W.heap.size W w' := by
  have HR := Lib.hid h
  clear h
  have HE : ∀ k, (hk : k < M.length) → (M.take (k + 1)).eraseIdx at_ = (M.take k).eraseIdx at_ ++ (if k = at_ then [] else [M[k]]) := fun k hk => by
    rw [List.take_succ_eq_append_getElem hk]
    by_cases h1 : at_ < k
    · rw [List.eraseIdx_append_of_lt_length (by rw [List.length_take]; omega), if_neg (by omega)]
    · rw [List.eraseIdx_append_of_length_le (by rw [List.length_take]; omega), List.length_take, Nat.min_eq_left (by omega)]
      by_cases h2 : k = at_
      · subst h2
        have e1 : (M.take k).eraseIdx k = M.take k := List.eraseIdx_of_length_le (by rw [List.length_take]; omega)
        rw [if_pos rfl, e1, Nat.sub_self]
        rfl
      · have e1 : (M.take k).eraseIdx at_ = M.take k := List.eraseIdx_of_length_le (by rw [List.length_take]; omega)
        have e2 : [M[k]].eraseIdx (at_ - k) = [M[k]] := List.eraseIdx_of_length_le (by simp; omega)
        rw [if_neg h2, e1, e2]
  have HEH := Lib.hid HE
  clear HE
  go_enter Try.func33, Try.ntmps33
  go_wp2
  go_loopw [6, 5] (fun kv vv wr => ∃ k : Nat, kv = .int .i64 k ∧ k ≤ M.length ∧ Hid (wr.ownsRow W.heap.size 54 2 vv ((M.take k).eraseIdx at_).length (((M.take k).eraseIdx at_).flatMap eEnt)) ∧ Below W.heap.size W wr) (fun kv _ _ => M.length - (intOf kv).toNat)
  case atStart => exact ⟨0, rfl, Nat.zero_le _, by simp only [List.take_zero, List.eraseIdx_nil]; exact World.ownsRow_nil _ _ _ _, Below.refl _ _⟩
  case round =>
    obtain ⟨k, rfl, hk, HO, hb⟩ := hrel
    have hs := hb.size
    by_cases hkl : k < M.length
    · obtain ⟨b, off, ea, hbl, hcs⟩ := (HR.out.below hb).get (by omega)
      have x0 := hcs k hkl 0 (by omega)
      have x1 := hcs k hkl 1 (by omega)
      simp only [eEnt, List.getElem?_cons_zero, List.getElem?_cons_succ, Nat.add_zero] at x0 x1
      have HS := Lib.hid (HEH.out k hkl)
      have hln : ((M.take k).eraseIdx at_).length ≤ 100000 := by
        refine Nat.le_trans (List.length_eraseIdx_le _ _) ?_
        rw [List.length_take]; omega
      have EA := Lib.hid ea
      clear hcs ea
      generalize M[k] = y at *
      obtain ⟨yi, yp⟩ := y
      simp only at x0 x1 HS
      obtain rfl := EA.out
      clear EA
      generalize (M.take k).eraseIdx at_ = L at *
      have hkl2 : (k : Int) < (M.length : Int) := by omega
      by_cases he : k = at_
      · have HS2 := HS.out
        rw [if_pos he, List.append_nil] at HS2
        have HS3 := Lib.hid HS2
        have de : ((k : Int) != (at_ : Int)) = false := by simp; omega
        clear HS HS2 he
        go_wp2
        go_roundw
        case rel => exact ⟨k + 1, by go_num, by omega, by rw [HS3.out]; exact HO, hb⟩
        case measure => simp [intOf]; omega
      · have HS2 := HS.out
        rw [if_neg he] at HS2
        have HS3 := Lib.hid HS2
        have de : ((k : Int) != (at_ : Int)) = true := by simp; omega
        clear HS HS2 he
        go_wp2_with (at_builtin; refine wp_append1 elRef21 W.heap.size HO.out [.int .u32 yi, .int .i64 yp] rfl (by simp [Value.oneCell']) rfl _ _ rfl rfl _ rfl (by unfold maxLen; omega) (by omega) hs ?_; intro v' w6 hown' hg)
        have b6 : Below W.heap.size W w6 := below_grown hb HO.out hg hs (Nat.le_refl _)
        go_roundw
        case rel => exact ⟨k + 1, by go_num, by omega, by rw [HS3.out, List.length_append, List.flatMap_append]; exact hown', b6⟩
        case measure => simp [intOf]; omega
    · obtain rfl : k = M.length := by omega
      rw [List.take_length] at HO
      go_wp2
      go_ret
      exact ⟨_, rfl, HO.out, hb⟩

end Go.Proofs.Ytpebefcmloablaa
