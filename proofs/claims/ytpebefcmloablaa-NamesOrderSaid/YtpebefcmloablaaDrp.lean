/- names.Drop. -/
import Derived.Test.YtpebefcmloablaaAnw
import Derived.IntWalk
namespace Go.Proofs.Ytpebefcmloablaa
open Go.RowKit Go.Maps
attribute [local irreducible] wpQuiet
set_option linter.unusedSimpArgs false
set_option linter.unusedVariables false

section
variable {W : World} {base A Cb : Nat} {bv pv lv cv : Value} {bh ch : List Hdr} {al : List Bool} {pl : List Int} {n N wk : Int}

/-- the types of the blocks in which a directory is written -/
def dirTy (t : TypeId) : Bool := t == 72 || t == 105 || t == 89 || t == 3 || t == 4

theorem mut_typed (hr : NmRep W base A Cb bv pv lv cv bh ch al pl n N wk) : ∀ k, mutS A Cb bv pv lv cv k → ∃ cs t fr, W.heap[k]? = some (Obj.cells cs t fr) ∧ dirTy t = true := by
  have hrow : ∀ {e : TypeId} {sz : Nat} {v : Value} {n : Nat} {xs : List Value} {k : Nat}, W.ownsRow base e sz v n xs → v.ownBlock = some k → ∃ cur, W.heap[k]? = some (Obj.cells cur e (0, 0)) := by
    intro e sz v n xs k hr e9
    rcases hr.2 with ⟨rfl, _⟩ | ⟨g, cap, cur, rfl, _, hh, _⟩
    · cases e9
    · simp only [Value.ownBlock, Option.some.injEq] at e9
      subst e9
      exact ⟨cur, hh⟩
  intro k hk
  rcases hk with h | h | h | h | h | h
  · exact ⟨_, _, _, h ▸ hr.blk, by decide⟩
  · exact ⟨_, _, _, h ▸ hr.car.blk, by decide⟩
  · obtain ⟨cur, hc⟩ := hrow hr.brow h
    exact ⟨_, _, _, hc, by decide⟩
  · obtain ⟨cur, hc⟩ := hrow hr.prow h
    exact ⟨_, _, _, hc, by decide⟩
  · obtain ⟨cur, hc⟩ := hrow hr.arow h
    exact ⟨_, _, _, hc, by decide⟩
  · obtain ⟨cur, hc⟩ := hrow hr.car.row h
    exact ⟨_, _, _, hc, by decide⟩

set_option maxRecDepth 100000 in
set_option maxHeartbeats 4000000 in
theorem nm_Drop_no (h : NmRep W base A Cb bv pv lv cv bh ch al pl n N wk) (hw : NmWF (ch.map (·.2.1)) (bh.map (·.2.1)) al pl n N) (id : Int) (hno : ∀ p, ¬ LiveAt (ch.map (·.2.1)).flatten al pl id p) :
    Calls Try.prog 32 #[.pointer (some ⟨A, 0, none⟩), .int .u32 id] W fun e w' => e = .returned (.tuple #[.int .i64 0, .bool false]) ∧ Below W.heap.size W w' := by
  have CN := Lib.hid (nm_is h)
  have H := Lib.hid h
  have hlv := hw.nsz
  have HF := Lib.hid (fun W' (hb : Below W.heap.size W W') => nm_find0 A id W' _ bh bv base ((h.below hb).cell.2.1) (h.below hb).brow rfl (h.below hb).bE hw.sorted (by have := hlv.1; simp at this; omega) (fun l hl => by have := hlv.2.2.1 l hl; omega))
  have HW := Lib.hid hw
  clear h hw hlv
  go_enter Try.func32, Try.ntmps32
  go_wp2_with fail
  refine CN.out.mono ?_
  rintro e w2 ⟨rfl, hb2⟩
  go_wp2_with fail
  refine (HF.out w2 hb2).mono ?_
  rintro e w3 ⟨k, t, rfl, ht, hk, hb3⟩
  have B3 := hb2.trans (hb3.mono hb2.size)
  obtain ⟨-, -, -, c3, -⟩ := (H.out.below B3).cell
  rcases hk with ⟨y, hy, h1, rfl⟩ | ⟨rfl, -⟩
  · rw [forall2_mem HW.out.perm] at hy
    obtain ⟨m, hm, hml⟩ := HW.out.nums y hy
    obtain ⟨al0, alc, rfl, -, -, hra⟩ := Rd.of_owns (H.out.below B3).arow
    obtain ⟨ab, ao, ea, -, hac⟩ := hra.get (by omega)
    have za := hac m hml
    have hdead : al[m] = false := by
      cases hb : al[m] with
      | false => rfl
      | true =>
        have hmp : m < pl.length := by have := HW.out.len; omega
        exact absurd ⟨m, by rw [← h1, ← hm]; exact hy, by rw [List.getElem?_eq_getElem hml, hb], List.getElem?_eq_getElem hmp⟩ (hno pl[m])
    rw [hdead] at za
    have EA := Lib.hid ea
    rw [hm]
    clear hac hra ea hdead h1 hy hm
    obtain rfl := EA.out
    clear EA
    have hmi : (m : Int) < (al.length : Int) := by omega
    have dneg : decide ((m : Int) < 0) = false := by simp
    go_wp2
    go_ret2
    exact ⟨rfl, B3⟩
  · go_wp2
    go_ret2
    exact ⟨rfl, B3⟩

theorem enters_car_len : ∀ args w, (callFunc 53 args).run Try.prog w = .ok (.enter 53 args) w := enters_of Try.func53 (by kernel_rfl) rfl

def DropP (W : World) (base A Cb : Nat) (bv pv lv cv : Value) (ch : List Hdr) (al : List Bool) (pl : List Int) (n : Int) (k : Nat) (p : Int) (e : Ending) (w' : World) : Prop :=
  ∃ (bv' cv' : Value) (bh' ch' : List Hdr) (N' wk' : Int), e = .returned (.tuple #[.int .i64 p, .bool true]) ∧ NmRep w' base A Cb bv' pv lv cv' bh' ch' (al.set k false) pl (n - 1) N' wk' ∧ NmWF (ch'.map (·.2.1)) (bh'.map (·.2.1)) (al.set k false) pl (n - 1) N' ∧
    (∀ id p, LiveAt (ch'.map (·.2.1)).flatten (al.set k false) pl id p ↔ LiveAt (ch.map (·.2.1)).flatten (al.set k false) pl id p) ∧ (∀ k, mutS A Cb bv' pv lv cv' k → mutS A Cb bv pv lv cv k ∨ W.heap.size ≤ k) ∧ KpS (mutS A Cb bv pv lv cv) W w'

set_option maxRecDepth 100000 in
set_option maxHeartbeats 8000000 in
theorem nm_Drop_yes (h : NmRep W base A Cb bv pv lv cv bh ch al pl n N wk) (hbW : base ≤ W.heap.size) (hw : NmWF (ch.map (·.2.1)) (bh.map (·.2.1)) al pl n N) (id p : Int) (m : Nat) (hm : (id, (m : Int)) ∈ (ch.map (·.2.1)).flatten) (hlive : al[m]? = some true) (hp : pl[m]? = some p) :
    Calls Try.prog 32 #[.pointer (some ⟨A, 0, none⟩), .int .u32 id] W (DropP W base A Cb bv pv lv cv ch al pl n m p) := by
  have CN := Lib.hid (nm_is h)
  have H := Lib.hid h
  have hlv := hw.nsz
  have HF := Lib.hid (fun W' (hb : Below W.heap.size W W') => nm_find0 A id W' _ bh bv base ((h.below hb).cell.2.1) (h.below hb).brow rfl (h.below hb).bE hw.sorted (by have := hlv.1; simp at this; omega) (fun l hl => by have := hlv.2.2.1 l hl; omega))
  have HW := Lib.hid hw
  have hn0 : 1 ≤ n ∧ n ≤ 5000 := by
    have h1 := hw.cnt
    have h2 : al.count true ≤ al.length := List.count_le_length
    have h3 := hw.bound
    obtain ⟨hml, hmv⟩ := List.getElem?_eq_some_iff.1 hlive
    have hc : 0 < al.count true := List.count_pos_iff.2 (hmv ▸ List.getElem_mem hml)
    omega
  have hN0 : 0 ≤ N ∧ N ≤ 5000 := by
    have h1 := hw.stored
    have h2 := hlv.2.2.2
    omega
  have HDEAD := Lib.hid (wf_dead hw m hlive)
  have hW := h.lt
  clear h hw hlv
  go_enter Try.func32, Try.ntmps32
  go_wp2_with fail
  refine CN.out.mono ?_
  rintro e w2 ⟨rfl, hb2⟩
  go_wp2_with fail
  refine (HF.out w2 hb2).mono ?_
  rintro e w3 ⟨k, t, rfl, ht, hk, hb3⟩
  have B3 := Lib.hid (hb2.trans (hb3.mono hb2.size))
  have R3 := Lib.hid (H.out.below B3.out)
  obtain ⟨c0, c1, c2, c3, c4⟩ := R3.out.cell
  have hkm : k = (m : Int) := by
    rcases hk with ⟨y, hy, h1, h2⟩ | ⟨-, hno⟩
    · rw [forall2_mem HW.out.perm] at hy
      have := nodup_fst HW.out.ids hy hm (by simpa using h1)
      rw [← h2, this]
    · exact absurd rfl (hno _ ((forall2_mem HW.out.perm _).2 hm))
  subst hkm
  obtain ⟨hml, -⟩ := List.getElem?_eq_some_iff.1 hlive
  obtain ⟨hmp, -⟩ := List.getElem?_eq_some_iff.1 hp
  obtain ⟨ga, alc, ea, hga1, hga2, -, -⟩ := ownRow_at R3.out.arow (by omega)
  subst ea
  have za := R3.out.arow.cellAt m (by omega)
  rw [List.getElem?_map, hlive] at za
  simp only [Option.map_some] at za
  have fa := R3.out.arow.frozenAt m
  have S4 := Lib.hid (R3.out.setA rfl m false)
  obtain ⟨d0, d1, d2, d3, d4⟩ := S4.out.cell
  have f4 := S4.out.frozen 4
  have S5 := Lib.hid (S4.out.setn (n - 1))
  have HK5 : Hid (KpS (mutS A Cb bv pv (.slice (some ⟨ga, 0, none⟩) al.length alc) cv) W ((w3.setCell ⟨ga, m, none⟩ (.bool false)).setCell ⟨A, 4, none⟩ (.int .i64 (n - 1)))) :=
    (((KpS.refl _ W).below B3.out).set (a := ⟨ga, m, none⟩) _ (.inl (.inr (.inr (.inr (.inr (.inl rfl))))))).set (a := ⟨A, 4, none⟩) _ (.inl (.inl rfl))
  have hmi : (m : Int) < (al.length : Int) := by omega
  have hmi2 : (m : Int) < (pl.length : Int) := by omega
  have dneg : decide ((m : Int) < 0) = false := by simp
  have hn1 : (-9223372036854775808 : Int) ≤ n - 1 ∧ n - 1 ≤ 9223372036854775807 := by omega
  have HPL := Lib.hid hp
  have HLI := Lib.hid hlive
  have HM := Lib.hid hm
  clear hk HF CN hp hlive hm B3
  go_upto_region 8 with fail
  generalize (w3.setCell ⟨ga, m, none⟩ (.bool false)).setCell ⟨A, 4, none⟩ (.int .i64 (n - 1)) = w5 at *
  clear c0 c1 c2 c3 c4 za fa d0 d1 d2 d3 d4 f4
  go_cut [51] from 41 to 50 (fun tv wx => tv = .bool (decide (2 * (n - 1) < N)) ∧ Hid (NmRep wx base A Cb bv pv (.slice (some ⟨ga, 0, none⟩) al.length alc) cv bh ch (al.set m false) pl (n - 1) N wk) ∧ Hid (KpS (mutS A Cb bv pv (.slice (some ⟨ga, 0, none⟩) al.length alc) cv) W wx))
  case first =>
    obtain ⟨c0, -, -, -, c4⟩ := S5.out.cell
    have hA5 := S5.out.lt
    have CL := Lib.hid (car_len (S5.out.below (Below.refl _ _).drew).car)
    have hb2n : (-9223372036854775808 : Int) ≤ 2 * (n - 1) ∧ 2 * (n - 1) ≤ 9223372036854775807 := by omega
    have CL2 : Hid (Calls Try.prog 53 #[.pointer (some ⟨Cb, 0, none⟩)] w5.drew fun e w7 => e = .returned (.int .i64 N) ∧ Hid (Below w5.drew.heap.size w5.drew w7) ∧ w7.cell? ⟨A, 0, none⟩ = some (.pointer (some ⟨Cb, 0, none⟩)) ∧ w7.cell? ⟨A, 4, none⟩ = some (.int .i64 (n - 1))) := Lib.hid (by
      refine CL.out.mono ?_
      rintro e w7 ⟨rfl, hb7⟩
      obtain ⟨g0, -, -, -, g4⟩ := ((S5.out.below (Below.refl _ _).drew).below hb7).cell
      exact ⟨rfl, hb7, g0, g4⟩)
    go_region_with (go_at_call 53; (with_reducible refine CL2.out.mono ?_); rintro e w7 ⟨rfl, HB7, g0, g4⟩)
    all_goals
      have R7 := Lib.hid ((S5.out.below (Below.refl _ _).drew).below HB7.out)
      go_wp2_with fail
      go_meet
      exact ⟨by rw [show IntKind.i64.wrap (2 * (n - 1)) = 2 * (n - 1) from IntWalk.i64_in _ (by omega)], R7, (HK5.out.drew).below HB7.out⟩
  case rest =>
  obtain ⟨rfl, R7, HK7⟩ := hcut
  obtain ⟨w7, ew7⟩ : ∃ w7 : World, w7 = wc := ⟨_, rfl⟩
  subst ew7
  clear S5 HK5
  generalize hdg : decide (2 * (n - 1) < N) = dg
  have HDG := Lib.hid hdg
  clear hdg
  go_upto_if 51 with fail
  go_cut [] from 51 to 53 (fun wx => ∃ (bv' cv' : Value) (bh' ch' : List Hdr) (N' wk' : Int), Hid (NmRep wx base A Cb bv' pv (.slice (some ⟨ga, 0, none⟩) al.length alc) cv' bh' ch' (al.set m false) pl (n - 1) N' wk') ∧ Hid (NmWF (ch'.map (·.2.1)) (bh'.map (·.2.1)) (al.set m false) pl (n - 1) N') ∧
    Hid (∀ id p, LiveAt (ch'.map (·.2.1)).flatten (al.set m false) pl id p ↔ LiveAt (ch.map (·.2.1)).flatten (al.set m false) pl id p) ∧ Hid (∀ k, mutS A Cb bv' pv (.slice (some ⟨ga, 0, none⟩) al.length alc) cv' k → mutS A Cb bv pv (.slice (some ⟨ga, 0, none⟩) al.length alc) cv k ∨ W.heap.size ≤ k) ∧ Hid (KpS (mutS A Cb bv pv (.slice (some ⟨ga, 0, none⟩) al.length alc) cv) W wx))
  case first =>
    cases dg
    · have HMO : Hid (N ≤ 2 * (n - 1)) := Lib.hid (by have := HDG.out; simp at this; omega)
      go_wp2_with fail
      go_meet
      exact ⟨bv, cv, bh, ch, N, wk, R7, ⟨HDEAD.out, HMO.out⟩, fun _ _ => Iff.rfl, fun k hk => .inl hk, HK7⟩
    · have CA := Lib.hid (nm_anew R7.out (by have := HK7.out.size; omega) HDEAD.out)
      go_wp2_with fail
      refine CA.out.mono ?_
      rintro e w8 ⟨bv', cv', bh', ch', N', wk', rfl, hr, hwf, hiff, hmut, hK⟩
      have HR8 := Lib.hid hr
      have HWF8 := Lib.hid hwf
      have HI8 := Lib.hid hiff
      have HM8 := Lib.hid hmut
      have HK8 := Lib.hid hK
      clear hr hwf hiff hmut hK
      go_wp2_with fail
      go_meet
      exact ⟨bv', cv', bh', ch', N', wk', HR8, HWF8, HI8, fun k hk => (HM8.out k hk).imp (fun h => h) (fun h => by have := HK7.out.size; omega), HK7.out.trans HK8.out⟩
  case rest =>
    obtain ⟨bv', cv', bh', ch', N', wk', R, HWF, HIFF, HMUT, HK⟩ := hcut
    obtain ⟨w9, ew9⟩ : ∃ w9 : World, w9 = wc := ⟨_, rfl⟩
    subst ew9
    obtain ⟨-, -, c2, -, -⟩ := R.out.cell
    obtain ⟨gp, plc, ep, hgp1, hgp2, -, -⟩ := ownRow_at R.out.prow (by omega)
    subst ep
    have zp := R.out.prow.cellAt m (by omega)
    rw [List.getElem?_map, HPL.out] at zp
    simp only [Option.map_some] at zp
    go_wp2
    go_ret2
    exact ⟨bv', cv', bh', ch', N', wk', rfl, R.out, HWF.out, HIFF.out, HMUT.out, HK.out⟩
end

end Go.Proofs.Ytpebefcmloablaa
